import Derived.Test.YtkpfabigipedcaaGreatLoCon1
namespace Go.V
open Go.Proofs
open IntKind (wrap)
set_option linter.unusedVariables false
set_option linter.unusedSimpArgs false
set_option maxRecDepth 100000
def qbl.vc (i : OA) (j T : Nat) (y : Int) (z : OA) (A B : Nat) (C : OA) (D E : Nat) (w : World) (K : VK) : Prop :=
  newK w (.cells #[(iv y), (sv z A B), (sv C D E)] 52) fun b d => ldS d (((bx b).add 1).add 0) fun F G U => ldS d (((bx b).add 1).add 0) fun V f W => (idx (wrap .i64 (((f : Nat) : Int) - 1)) G F fun k => ldI d ((k.add (((wrap .i64 (((f : Nat) : Int) - 1)).toNat) * 3)).add 0) fun H => ldI d ((k.add (((wrap .i64 (((f : Nat) : Int) - 1)).toNat) * 3)).add 1) fun I => ldI d ((k.add (((wrap .i64 (((f : Nat) : Int) - 1)).toNat) * 3)).add 2) fun J => newK d (.cells #[(iv 0), (iv 0), (iv 0)] 91) fun c L => qa5 (bx c) [(iv H), (iv I), (iv J)] 0 L fun a => ldI a (((bx c).add 0).add 0) fun m => (idx m j i fun M => ldI a (((M.add ((m.toNat) * 4)).add 0).add 0) fun N => qa1 (N != 10) (K (.bool false) a.drew) (ldI a (((bx c).add 0).add 0) fun n => (idx n j i fun O => ldI a (((O.add ((n.toNat) * 4)).add 2).add 0) fun P => ldI a (((bx c).add 0).add 0) fun Q => qa1 (P == (wrap .i64 (Q + 1))) (K (.bool false) a.drew) ((∃ e : Nat → Prop, ∃ (o : Int), (¬ e ((bx b)).block ∧ a.drew.cell? ((bx b).add 0) = some (iv o)) ∧ ∃ (p : OA) (q r : Nat), (¬ e ((bx b)).block ∧ a.drew.cell? ((bx b).add 1) = some (sv p q r)) ∧ ∃ (s : OA) (t u : Nat), (¬ e ((bx b)).block ∧ a.drew.cell? ((bx b).add 2) = some (sv s t u)) ∧ ∃ (g : Int), (¬ e (((bx c).add 0)).block ∧ a.drew.cell? (((bx c).add 0).add 0) = some (iv g)) ∧ (idx g j i fun v => ∃ (x : Int), (¬ e (((v.add ((g.toNat) * 4)).add 1)).block ∧ a.drew.cell? (((v.add ((g.toNat) * 4)).add 1).add 0) = some (iv x)) ∧ Cl 205 #[(.agg #[(iv o), (sv p q r), (sv s t u)]), (iv x)] a.drew.drew fun R h => (∃ (l : Int), R = (iv l) ∧ qab e a.drew h ∧ qa1 (l != 0) (ldI h (((bx c).add 2).add 0) fun S => K (.bool (l != S)) h) (K (.bool false) h)))))))))

def qbl.ann : Ann := (.seq .l (.seq .l (.seq (.seq .l (.two (.seq .l .l) .l)) (.seq .l (.seq .l .l)))))

theorem qbl.con {f : List D.Ins} {i j k : OA} {l m n : Nat} {c : D.Warp} {r : Bool} {w : World} (F : M.qeN f c) (g : r = M.qbl f c) (o : Row el84 w i f) (a3 : f.length ≤ l) (t : Row el91 w j c.Frames) (G : c.Frames.length ≤ m) (I : Row el3 w k c.Regs) (J : c.Regs.length ≤ n) :
    Cl 169 #[(sv i f.length l), (.agg (wC j m k n c))] w (fun K L => K = (.bool r) ∧ Ext w L) := by
 have H := wp.qbl.math f c F
 refine begK mixed Tryz.f169 ann (vc i f.length l c.Number j c.Frames.length m k c.Regs.length n) ?_
 unfold vc
 unfold wp.qbl at H
 refine qaL (fun a4 a5 L4 e N => ?_)
 have b := qa6 (Ext.refl w) N
 refine ⟨_, _, _, (e.a 1), _, _, _, (e.a 1), ?_⟩
 obtain ⟨⟨u, v⟩, H⟩ := H
 obtain ⟨O, P, p⟩ := Row.at (t.ext b) u v
 refine ⟨u, v, O, P, _, (p 0 _ rfl), _, (p 1 _ rfl), _, (p 2 _ rfl), ?_⟩
 refine qid #[(iv ((rd c.Frames (wrap .i64 ((c.Frames.length : Int) - 1))).Pc)), (iv ((rd c.Frames (wrap .i64 ((c.Frames.length : Int) - 1))).Stop)), (iv ((rd c.Frames (wrap .i64 ((c.Frames.length : Int) - 1))).Mask))] (fun a6 Q L5 d x => ?_)
 have e := e.ext x
 have b := qa6 b x
 refine ⟨_, (d.a 0), ?_⟩
 obtain ⟨⟨y, z⟩, H⟩ := H
 obtain ⟨R, S, T⟩ := Row.at (o.ext b) y z
 refine ⟨y, z, R, S, _, (T 0 _ rfl), ?_⟩
 apply brc H<;>intro h H
 ·have b := qa6 b (Ext.drew _)
  cases g.trans H.symm
  exact ⟨rfl, b⟩
 refine ⟨_, (d.a 0), ?_⟩
 obtain ⟨⟨A, B⟩, H⟩ := H
 obtain ⟨U, V, W⟩ := Row.at (o.ext b) A B
 refine ⟨A, B, U, V, _, (W 2 _ rfl), _, (d.a 0), ?_⟩
 have e := e.ext (Ext.drew _)
 have d := d.ext (Ext.drew _)
 have b := qa6 b (Ext.drew _)
 apply brc H<;>intro h H
 ·cases g.trans H.symm
  exact ⟨rfl, b⟩
 refine ⟨(fun _ => False), _, noM (e.a 0), _, _, _, noM (e.a 1), _, _, _, noM (e.a 2), _, noM (d.a 0), ?_⟩
 obtain ⟨⟨C, E⟩, H⟩ := H
 obtain ⟨X, Y, Z⟩ := Row.at (o.ext b) C E
 refine ⟨C, E, X, Y, _, ⟨(fun h_ => h_), (Z 1 _ rfl)⟩, ?_⟩
 have d := d.ext (Ext.drew _)
 have b := qa6 b (Ext.drew _)
 have q := (Chg.refl (fun _ => False) Q.drew).then (Ext.drew _)
 obtain ⟨a0, H⟩ := H
 obtain ⟨a1, a2, H⟩ := qaa H
 refine (qaU.con a0 a2 (t.ext b) G (I.ext b) J).mono ?_
 rintro _ a7 ⟨rfl, s⟩
 have d := d.ext s
 have b := qa6 b s
 have q := q.then s
 refine ⟨a1, rfl, qaw q, ?_⟩
 apply brc H<;>intro h H
 ·refine ⟨_, (d.a 2), ?_⟩
  cases g.trans H.symm
  exact ⟨rfl, b⟩
 cases g.trans H.symm
 exact ⟨rfl, b⟩
def qaP.vc (g : OA) (h l : Nat) (m : Int) (n : OA) (o p : Nat) (q : OA) (r s : Nat) (w : World) (K : VK) : Prop :=
  newK w (.cells #[(iv m), (sv n o p), (sv q r s)] 52) fun b a => ldS a (((bx b).add 1).add 0) fun N t O => qa1 (((t : Nat) : Int) == 0) (K (.bool false) a) (ldS a (((bx b).add 1).add 0) fun u v P => ldS a (((bx b).add 1).add 0) fun Q i R => (idx (wrap .i64 (((i : Nat) : Int) - 1)) v u fun x => ldI a (((x.add (((wrap .i64 (((i : Nat) : Int) - 1)).toNat) * 3)).add 0).add 0) fun c => (idx c h g fun e => ldI a ((e.add ((c.toNat) * 4)).add 0) fun y => ldI a ((e.add ((c.toNat) * 4)).add 1) fun z => ldI a ((e.add ((c.toNat) * 4)).add 2) fun A => ldI a ((e.add ((c.toNat) * 4)).add 3) fun B => Cl 124 #[(.agg #[(iv y), (iv z), (iv A), (iv B)])] a fun C d => (∃ (j : Bool), C = (.bool j) ∧ qa1 (!j) (K (.bool false) d) (ldI d ((bx b).add 0) fun D => ldS d ((bx b).add 1) fun E F G => ldS d ((bx b).add 2) fun H I J => Cl 169 #[(sv g h l), (.agg #[(iv D), (sv E F G), (sv H I J)])] d fun L f => (∃ (k : Bool), L = (.bool k) ∧ qa1 (!k) (K (.bool true) f) (ldS f (((bx b).add 1).add 0) fun S M T => K (.bool (decide (((M : Nat) : Int) ≤ 22))) f)))))))

def qaP.ann : Ann := (.seq .l (.seq (.seq .l (.two (.seq .l .l) .l)) (.seq .l .l)))

theorem qaP.con {e : List D.Ins} {i j k : OA} {l m n : Nat} {c : D.Warp} {r : Bool} {w : World} (y : M.qg0 e c) (f : r = M.qaP e c) (o : Row el84 w i e) (z : e.length ≤ l) (p : Row el91 w j c.Frames) (A : c.Frames.length ≤ m) (B : Row el3 w k c.Regs) (C : c.Regs.length ≤ n) :
    Cl 125 #[(sv i e.length l), (.agg (wC j m k n c))] w (fun E F => E = (.bool r) ∧ Ext w F) := by
 have H := wp.qaP.math e c y
 refine begK mixed Tryz.f125 ann (vc i e.length l c.Number j c.Frames.length m k c.Regs.length n) ?_
 unfold vc
 unfold wp.qaP at H
 refine qaL (fun T U V d G => ?_)
 have b := qa6 (Ext.refl w) G
 refine ⟨_, _, _, (d.a 1), ?_⟩
 apply brc H<;>intro h H
 ·cases f.trans H.symm
  exact ⟨rfl, b⟩
 refine ⟨_, _, _, (d.a 1), _, _, _, (d.a 1), ?_⟩
 obtain ⟨⟨q, s⟩, H⟩ := H
 obtain ⟨I, J, K⟩ := Row.at (p.ext b) q s
 refine ⟨q, s, I, J, _, (K 0 _ rfl), ?_⟩
 obtain ⟨⟨t, u⟩, H⟩ := H
 obtain ⟨L, N, g⟩ := Row.at (o.ext b) t u
 refine ⟨t, u, L, N, _, (g 0 _ rfl), _, (g 1 _ rfl), _, (g 2 _ rfl), _, (g 3 _ rfl), ?_⟩
 obtain ⟨O, P, H⟩ := qaa H
 refine (qcG.con P ).mono ?_
 rintro _ W ⟨rfl, v⟩
 have d := d.ext v
 have b := qa6 b v
 refine ⟨O, rfl, ?_⟩
 apply brc H<;>intro h H
 ·cases f.trans H.symm
  exact ⟨rfl, b⟩
 refine ⟨_, (d.a 0), _, _, _, (d.a 1), _, _, _, (d.a 2), ?_⟩
 obtain ⟨Q, H⟩ := H
 obtain ⟨R, S, H⟩ := qaa H
 refine (qbl.con Q S (o.ext b) z (p.ext b) A (B.ext b) C).mono ?_
 rintro _ X ⟨rfl, x⟩
 have d := d.ext x
 have b := qa6 b x
 refine ⟨R, rfl, ?_⟩
 apply brc H<;>intro h H
 ·cases f.trans H.symm
  exact ⟨rfl, b⟩
 refine ⟨_, _, _, (d.a 1), ?_⟩
 cases f.trans H.symm
 exact ⟨rfl, b⟩
def qcI.vc (p : OA) (q r : Nat) (s : OA) (t u : Nat) (v : OA) (x y : Nat) (z A b : Int) (w : World) (K : VK) : Prop :=
  newK w (.cells (vB p q r s t u v x y z A) 33) fun h f => ldS f (((bx h).add 1).add 0) fun B C al => (idx b C B fun i => ldI f ((i.add ((b.toNat) * 3)).add 0) fun D => ldS f ((i.add ((b.toNat) * 3)).add 1) fun E F G => ldS f ((i.add ((b.toNat) * 3)).add 2) fun H I J => newK f (.cells #[(iv 0), (sv none 0 0), (sv none 0 0)] 52) fun c L => qa5 (bx c) [(iv D), (sv E F G), (sv H I J)] 0 L fun d => ldS d (((bx c).add 1).add 0) fun am M an => qa1 (((M : Nat) : Int) == 0) (K (.bool false) d) (ldI d (((bx h).add 3).add 0) fun N => ((0 : Int) ≤ b ∧ qa1 ((qdQ .i64 (Int.fdiv N (2 ^ (min (b.toNat) (IntKind.bits .i64)))) 1) == 1) (K (.bool false) d) (ldB d (bx h) fun O P Q R S T U V W X Y => Cl 98 #[(.agg (vB O P Q R S T U V W X Y)), (iv b)] d fun Z a0 => (∃ (j : Int), True ∧ ∃ (k : Int), True ∧ ∃ (l : Int), True ∧ ∃ (m : Int), True ∧ Z = (.agg #[(iv j), (iv k), (iv l), (iv m)]) ∧ newK a0 (.cells #[(iv 0), (iv 0), (iv 0), (iv 0)] 84) fun e a1 => qa5 (bx e) [(iv j), (iv k), (iv l), (iv m)] 0 a1 fun g => ldI g ((bx e).add 0) fun a2 => ldI g ((bx e).add 1) fun a3 => ldI g ((bx e).add 2) fun a4 => ldI g ((bx e).add 3) fun a5 => Cl 124 #[(.agg #[(iv a2), (iv a3), (iv a4), (iv a5)])] g fun a6 a => (∃ (n : Bool), a6 = (.bool n) ∧ qa1 n (ldS a (((bx h).add 0).add 0) fun a7 a8 a9 => ldI a ((bx c).add 0) fun aa => ldS a ((bx c).add 1) fun ab ac ad => ldS a ((bx c).add 2) fun ae af ag => Cl 125 #[(sv a7 a8 a9), (.agg #[(iv aa), (sv ab ac ad), (sv ae af ag)])] a fun ah ai => (∃ (o : Bool), ah = (.bool o) ∧ K (.bool o) ai)) (ldI a (((bx e).add 0).add 0) fun aj => qa1 (aj != 16) (K (.bool true) a) (ldS a (((bx c).add 1).add 0) fun ao ak ap => K (.bool (((ak : Nat) : Int) == 1)) a))))))))

def qcI.ann : Ann := (.seq .l (.seq .l (.seq (.seq .l (.two (.seq .l .l) .l)) (.seq .l (.seq (.seq .l (.two (.seq .l .l) .l)) (.seq .l .l))))))

theorem qcI.con {c : D.Block} {m n p : OA} {q s t : Nat} {f : Int} {r : Bool} {w : World} (J : M.qgJ c f) (i : r = M.qcI c f) (x : Row el84 w m c.Code) (y : c.Code.length ≤ q) (z : RowW 52 el91 el3 w n c.Warps) (K : c.Warps.length ≤ s) (L : Row el3 w p c.Memory) (N : c.Memory.length ≤ t) :
    Cl 64 #[(.agg (bC m q n s p t c)), (iv f)] w (fun O P => O = (.bool r) ∧ Ext w P) := by
 have H := wp.qcI.math c f J
 refine begK mixed Tryz.f64 ann (vc m c.Code.length q n c.Warps.length s p c.Memory.length t c.Waiting c.Phase f) ?_
 unfold vc
 unfold wp.qcI at H
 refine qaL (fun af ag L4 d Q => ?_)
 have b := qa6 (Ext.refl w) Q
 refine ⟨_, _, _, (d.a 1), ?_⟩
 obtain ⟨⟨E, F⟩, H⟩ := H
 obtain ⟨R, S, T, U, V, W, X, Y, Z, a0, a1, a2, a3⟩ := RowW.at z E F
 refine ⟨E, F, R, S, _, (Ext.cell b X), _, _, _, (Ext.cell b Y), _, _, _, (Ext.cell b Z), ?_⟩
 refine qaL (fun ah ai k P7 G => ?_)
 have a4 := d.ne k
 have d := d.ext G
 have e := P7
 have k := Nat.le_trans b.size k
 have b := qa6 b G
 refine qda e (o := 0) (cs' := #[(iv ((rd c.Warps f).Number)), (sv T ((rd c.Warps f).Frames.length) U), (sv V ((rd c.Warps f).Regs.length) W)]) rfl rfl (Nat.le_of_ble_eq_true rfl) rfl (fun aj e I => ?_)
 have a5 := d.chg I a4
 have d := a5
 have b := echg b I k
 refine ⟨_, _, _, (e.a 1), ?_⟩
 apply brc H<;>intro h H
 ·cases i.trans H.symm
  exact ⟨rfl, b⟩
 refine ⟨_, (d.a 3), ?_⟩
 obtain ⟨a6, H⟩ := H
 refine ⟨a6, ?_⟩
 apply brc H<;>intro h H
 ·cases i.trans H.symm
  exact ⟨rfl, b⟩
 refine ⟨_, _, _, (d.a 0), _, _, _, (d.a 1), _, _, _, (d.a 2), _, (d.a 3), _, (d.a 4), ?_⟩
 obtain ⟨a7, H⟩ := H
 obtain ⟨j, a8, H⟩ := qaa H
 refine (qcs.con a7 a8 (x.ext b) y (z.ext b) K (L.ext b) N).mono ?_
 rintro _ ak ⟨rfl, u⟩
 refine ⟨j.Op, trivial, j.A, trivial, j.B, trivial, j.C, trivial, rfl, ?_⟩
 refine qid (iC j) (fun al am L8 g v => ?_)
 refine ⟨_, (g.a 0), _, (g.a 1), _, (g.a 2), _, (g.a 3), ?_⟩
 obtain ⟨a9, aa, H⟩ := qaa H
 refine (qcG.con aa ).mono ?_
 rintro _ an ⟨rfl, l⟩
 have d := ((d.ext u).ext v).ext l
 have e := ((e.ext u).ext v).ext l
 have g := g.ext l
 have b := qa6 (qa6 (qa6 b u) v) l
 refine ⟨a9, rfl, ?_⟩
 apply brc H<;>intro h H
 ·refine ⟨_, _, _, (d.a 0), _, (e.a 0), _, _, _, (e.a 1), _, _, _, (e.a 2), ?_⟩
  obtain ⟨ab, H⟩ := H
  obtain ⟨ac, ad, H⟩ := qaa H
  refine (cllA (qaP.con ab ad (x.ext b) y (a0.ext b) a1 (a2.ext b) a3)).mono ?_
  rintro _ ao ⟨rfl, ae⟩
  have b := qa6 b ae
  refine ⟨ac, rfl, ?_⟩
  cases i.trans H.symm
  exact ⟨rfl, b⟩
 refine ⟨_, (g.a 0), ?_⟩
 apply brc H<;>intro h H
 ·cases i.trans H.symm
  exact ⟨rfl, b⟩
 refine ⟨_, _, _, (e.a 1), ?_⟩
 cases i.trans H.symm
 exact ⟨rfl, b⟩
def qbg.vc (d : Int) (e : OA) (f g : Nat) (h : OA) (i j : Nat) (w : World) (K : VK) : Prop :=
  newK w (.cells #[(iv d), (sv e f g), (sv h i j)] 52) fun b a => ldS a (((bx b).add 1).add 0) fun p k q => qa1 (((k : Nat) : Int) == 0) (K (iv 0) a) (ldS a (((bx b).add 1).add 0) fun l m r => ldS a (((bx b).add 1).add 0) fun s c t => (idx (wrap .i64 (((c : Nat) : Int) - 1)) m l fun n => ldI a (((n.add (((wrap .i64 (((c : Nat) : Int) - 1)).toNat) * 3)).add 2).add 0) fun o => K (iv o) a))

def qbg.ann : Ann := (.seq .l (.seq (.seq .l (.two (.seq .l .l) .l)) (.seq .l .l)))

theorem qbg.con {b : D.Warp} {c d : OA} {e f : Nat} {r : Int} {w : World} (m : M.qcU b) (j : r = M.qbg b) (n : Row el91 w c b.Frames) (v : b.Frames.length ≤ e) (x : Row el3 w d b.Regs) (y : b.Regs.length ≤ f) :
    Cl 106 #[(.agg (wC c e d f b))] w (fun o p => o = (iv r) ∧ Ext w p) := by
 have H := wp.qbg.math b m
 refine begK mixed Tryz.f106 ann (vc b.Number c b.Frames.length e d b.Regs.length f) ?_
 unfold vc
 unfold wp.qbg at H
 refine qaL (fun z A B g q => ?_)
 have i := qa6 (Ext.refl w) q
 refine ⟨_, _, _, (g.a 1), ?_⟩
 apply brc H<;>intro h H
 ·cases j.trans H.symm
  exact ⟨rfl, i⟩
 refine ⟨_, _, _, (g.a 1), _, _, _, (g.a 1), ?_⟩
 obtain ⟨⟨k, l⟩, H⟩ := H
 obtain ⟨s, t, u⟩ := Row.at (n.ext i) k l
 refine ⟨k, l, s, t, _, (u 2 _ rfl), ?_⟩
 cases j.trans H.symm
 exact ⟨rfl, i⟩
def qaS.vc (n : Int) (o : OA) (p q : Nat) (r : OA) (s t : Nat) (h : Int) (w : World) (K : VK) : Prop :=
  newK w (.cells #[(iv n), (sv o p q), (sv r s t)] 52) fun b d => ldI d ((bx b).add 0) fun u => ldS d ((bx b).add 1) fun v x y => ldS d ((bx b).add 2) fun z A B => Cl 106 #[(.agg #[(iv u), (sv v x y), (sv z A B)])] d fun C D => (∃ (i : Int), C = (iv i) ∧ Cl 105 #[(iv i)] D fun E F => (∃ (j : OA) (e G : Nat), E = (sv j e G) ∧ qdh (σ := Int × Int × Unit) (fun a c k => qa1 (decide (a.2.1 < ((e : Nat) : Int))) ((idx a.2.1 e j fun H => ldI c ((H.add ((a.2.1.toNat) * 1)).add 0) fun f => ldI c ((bx b).add 0) fun I => ldS c ((bx b).add 1) fun J L M => ldS c ((bx b).add 2) fun N O P => Cl 107 #[(.agg #[(iv I), (sv J L M), (sv N O P)]), (iv f)] c fun Q g => (∃ (l : OA) (m R : Nat), Q = (sv l m R) ∧ (idx h m l fun S => ldI g ((S.add ((h.toNat) * 1)).add 0) fun T => qa1 (T == 0) (((0 : Int) ≤ f ∧ k ((qh0 .i64 a.1 (wrap .i64 (1 * 2 ^ (min (f.toNat) (IntKind.bits .i64))))), (wrap .i64 (a.2.1 + 1)), ()) g)) (k (a.1, (wrap .i64 (a.2.1 + 1)), ()) g))))) (K (iv a.1) c)) (0, 0, ()) F))

def qaS.ann : Ann := (.seq .l (.seq .l (.seq (.seq .l (.one (.loop [(5, .int .i64), (12, .int .i64)] (.seq .l (.seq (.two .l .l) (.seq (.one (.seq .l (.seq .l (.two .l .l)))) .l)))))) (.seq .l .l))))

theorem qaS.con {c : D.Warp} {o j : OA} {p g : Nat} {k r : Int} {w : World} (K : M.qdg c k) (L : r = M.qaS c k) (v : Row el91 w o c.Frames) (x : c.Frames.length ≤ p) (t : Row el3 w j c.Regs) (q : c.Regs.length ≤ g) :
    Cl 166 #[(.agg (wC o p j g c)), (iv k)] w (fun N n => N = (iv r) ∧ Ext w n) := by
 have H := wp.qaS.math c k K
 refine begK mixed Tryz.f166 ann (vc c.Number o c.Frames.length p j c.Regs.length g k) ?_
 unfold vc
 unfold wp.qaS at H
 refine qaL (fun O ag L3 d P => ?_)
 have b := qa6 (Ext.refl w) P
 refine ⟨_, (d.a 0), _, _, _, (d.a 1), _, _, _, (d.a 2), ?_⟩
 obtain ⟨Q, H⟩ := H
 obtain ⟨R, S, H⟩ := qaa H
 refine (qbg.con Q S (v.ext b) x (t.ext b) q).mono ?_
 rintro _ ah ⟨rfl, y⟩
 have b := qa6 b y
 refine ⟨R, rfl, ?_⟩
 obtain ⟨f, T, H⟩ := qaa H
 refine (qc8.con T ).mono ?_
 rintro _ ai ⟨z, A, rfl, U, B⟩
 have d := (d.ext y).ext B
 have i := U.mono b.size
 have b := qa6 b B
 refine ⟨z, f.length, A, rfl, ?_⟩
 obtain ⟨V, ⟨W, X⟩, C⟩ := H
 refine ⟨fun Y Z n => ∃ (s e : Int), Z = (s, e, ()) ∧ V Y (s, e, ()) ∧ Ext w n ∧ Blk n O 52 (wC o p j g c) ∧ Own el3 n w.heap.size z A f, ⟨W, 0, 0, rfl, X, b, d, i⟩, ?_⟩
 rintro a0 _ aj ⟨s, e, rfl, E, b, d, i⟩
 have H := C a0 _ E
 clear C E
 try dsimp only at H ⊢
 apply brc H<;>intro h H
 ·obtain ⟨⟨F, G⟩, H⟩ := H
  obtain ⟨a1, a2, a3⟩ := Row.at i.row F G
  refine ⟨F, G, a1, a2, _, (a3 0 _ rfl), _, (d.a 0), _, _, _, (d.a 1), _, _, _, (d.a 2), ?_⟩
  obtain ⟨a4, H⟩ := H
  refine (qbr.con a4 (v.ext b) x (t.ext b) q).mono ?_
  rintro _ ak ⟨rfl, u⟩
  have d := d.ext u
  have i := i.ext u
  have b := qa6 b u
  have a5 := (t.take ((wrap .i64 ((wrap .i64 ((rd f e) + 1)) * 4)).toNat)).drop (l := ((wrap .i64 ((rd f e) * 4)).toNat)) (m := g) (by have := q; simp; omega)
  have al : (List.drop ((wrap .i64 ((rd f e) * 4)).toNat) (List.take ((wrap .i64 ((wrap .i64 ((rd f e) + 1)) * 4)).toNat) c.Regs)).length ≤ (g - ((wrap .i64 ((rd f e) * 4)).toNat)) := by have := q; simp; omega
  refine ⟨(cutA g ((wrap .i64 ((rd f e) * 4)).toNat) j 1), (List.drop ((wrap .i64 ((rd f e) * 4)).toNat) (List.take ((wrap .i64 ((wrap .i64 ((rd f e) + 1)) * 4)).toNat) c.Regs)).length, (g - ((wrap .i64 ((rd f e) * 4)).toNat)), rfl, ?_⟩
  obtain ⟨⟨I, J⟩, H⟩ := H
  obtain ⟨a6, a7, a8⟩ := Row.at (a5.ext b) I J
  refine ⟨I, J, a6, a7, _, (a8 0 _ rfl), ?_⟩
  apply brc H<;>intro h H
  ·obtain ⟨a9, H⟩ := H
   refine ⟨a9, ?_⟩
   obtain ⟨aa, ab, ac⟩ := H
   exact ⟨aa, ab, _, _, rfl, ac, b, d, i⟩
  obtain ⟨ad, ae, af⟩ := H
  exact ⟨ad, ae, s, _, rfl, af, b, d, i⟩
 cases L.trans H.symm
 exact ⟨rfl, b⟩
def qb4.vc (k : Int) (l : OA) (m n : Nat) (o : OA) (p q : Nat) (f : OA) (g T : Nat) (w : World) (K : VK) : Prop :=
  newK w (.cells #[(iv k), (sv l m n), (sv o p q)] 52) fun b a => ldS a (((bx b).add 1).add 0) fun r s U => ldS a (((bx b).add 1).add 0) fun V i W => (idx (wrap .i64 (((i : Nat) : Int) - 1)) s r fun t => ldI a (((t.add (((wrap .i64 (((i : Nat) : Int) - 1)).toNat) * 3)).add 0).add 0) fun c => (idx c g f fun u => ldI a (((u.add ((c.toNat) * 4)).add 0).add 0) fun v => qa1 (v != 10) (K (.bool false) a) ((idx c g f fun x => ldI a (((x.add ((c.toNat) * 4)).add 2).add 0) fun y => qa1 (y == (wrap .i64 (c + 1))) (K (.bool false) a) ((∃ e : Nat → Prop, ldIM e a (bx b) 0 fun z => ldSM e a (bx b) 1 fun A B C => ldSM e a (bx b) 2 fun D E F => (idx c g f fun G => ldIM e a ((G.add ((c.toNat) * 4)).add 1) 0 fun H => Cl 166 #[(.agg #[(iv z), (sv A B C), (sv D E F)]), (iv H)] a.drew fun I d => (∃ (h : Int), I = (iv h) ∧ qab e a d ∧ qa1 (h != 0) (ldI d ((bx b).add 0) fun J => ldS d ((bx b).add 1) fun L M N => ldS d ((bx b).add 2) fun O P Q => Cl 106 #[(.agg #[(iv J), (sv L M N), (sv O P Q)])] d fun R S => (∃ (j : Int), R = (iv j) ∧ K (.bool (h != j)) S)) (K (.bool false) d)))))))))

def qb4.ann : Ann := (.seq .l (.seq .l (.seq (.seq .l (.two (.seq .l .l) .l)) (.seq .l (.seq .l .l)))))

theorem qb4.con {d : D.Warp} {g i j : OA} {k l m : Nat} {e : List D.Ins} {r : Bool} {w : World} (F : M.qep d e) (f : r = M.qb4 d e) (n : Row el91 w g d.Frames) (s : d.Frames.length ≤ k) (t : Row el3 w i d.Regs) (u : d.Regs.length ≤ l) (o : Row el84 w j e) (a6 : e.length ≤ m) :
    Cl 122 #[(.agg (wC g k i l d)), (sv j e.length m)] w (fun G I => G = (.bool r) ∧ Ext w I) := by
 have H := wp.qb4.math d e F
 refine begK mixed Tryz.f122 ann (vc d.Number g d.Frames.length k i d.Regs.length l j e.length m) ?_
 unfold vc
 unfold wp.qb4 at H
 refine qaL (fun a7 J L4 c K => ?_)
 have b := qa6 (Ext.refl w) K
 refine ⟨_, _, _, (c.a 1), _, _, _, (c.a 1), ?_⟩
 obtain ⟨⟨v, x⟩, H⟩ := H
 obtain ⟨L, N, O⟩ := Row.at (n.ext b) v x
 refine ⟨v, x, L, N, _, (O 0 _ rfl), ?_⟩
 obtain ⟨⟨y, z⟩, H⟩ := H
 obtain ⟨P, Q, R⟩ := Row.at (o.ext b) y z
 refine ⟨y, z, P, Q, _, (R 0 _ rfl), ?_⟩
 apply brc H<;>intro h H
 ·cases f.trans H.symm
  exact ⟨rfl, b⟩
 obtain ⟨⟨A, B⟩, H⟩ := H
 obtain ⟨S, T, U⟩ := Row.at (o.ext b) A B
 refine ⟨A, B, S, T, _, (U 2 _ rfl), ?_⟩
 apply brc H<;>intro h H
 ·cases f.trans H.symm
  exact ⟨rfl, b⟩
 refine ⟨(fun _ => False), _, noM (c.a 0), _, _, _, noM (c.a 1), _, _, _, noM (c.a 2), ?_⟩
 obtain ⟨⟨C, E⟩, H⟩ := H
 obtain ⟨V, W, X⟩ := Row.at (o.ext b) C E
 refine ⟨C, E, V, W, _, ⟨(fun Y => Y), (X 1 _ rfl)⟩, ?_⟩
 have c := c.ext (Ext.drew _)
 have b := qa6 b (Ext.drew _)
 have p := (Chg.refl (fun _ => False) J).then (Ext.drew _)
 obtain ⟨Z, H⟩ := H
 obtain ⟨a0, a1, H⟩ := qaa H
 refine (qaS.con Z a1 (n.ext b) s (t.ext b) u).mono ?_
 rintro _ a8 ⟨rfl, q⟩
 have c := c.ext q
 have b := qa6 b q
 have p := p.then q
 refine ⟨a0, rfl, qaw p, ?_⟩
 apply brc H<;>intro h H
 ·refine ⟨_, (c.a 0), _, _, _, (c.a 1), _, _, _, (c.a 2), ?_⟩
  obtain ⟨a2, H⟩ := H
  obtain ⟨a3, a4, H⟩ := qaa H
  refine (qbg.con a2 a4 (n.ext b) s (t.ext b) u).mono ?_
  rintro _ a9 ⟨rfl, a5⟩
  have b := qa6 b a5
  refine ⟨a3, rfl, ?_⟩
  cases f.trans H.symm
  exact ⟨rfl, b⟩
 cases f.trans H.symm
 exact ⟨rfl, b⟩
def qaR.vc (t : OA) (u v : Nat) (x : OA) (y z : Nat) (A : OA) (B C : Nat) (D E a : Int) (w : World) (K : VK) : Prop :=
  newK w (.cells (vB t u v x y z A B C D E) 33) fun e o => ldB o (bx e) fun F G H I J L M N O P Q => Cl 68 #[(.agg (vB F G H I J L M N O P Q)), (iv a)] o fun R S => (∃ T : Value, (∃ (g : Int), True ∧ ∃ (h : Int), True ∧ ∃ (i : Int), True ∧ ∃ (j : Int), True ∧ T = (.agg #[(iv g), (iv h), (iv i), (iv j)]) ∧ ∃ U : Value, (∃ (k : Bool), U = (.bool k) ∧ R = (.tuple #[(.agg #[(iv g), (iv h), (iv i), (iv j)]), (.bool k)]) ∧ newK S (.cells #[(iv 0), (iv 0), (iv 0), (iv 0)] 84) fun f V => qa5 (bx f) [(iv g), (iv h), (iv i), (iv j)] 0 V fun l => qfo (σ := Bool × Unit) (fun p => qa1 (!k) (p (true, ()) l) (ldB l (bx e) fun W X Y Z a0 a1 a2 a3 a4 a5 a6 => Cl 65 #[(.agg (vB W X Y Z a0 a1 a2 a3 a4 a5 a6)), (iv a)] l fun a7 a8 => (∃ (q : Bool), a7 = (.bool q) ∧ p (q, ()) a8))) fun a9 b => qa1 a9.1 (K (.bool false) b) (ldI b (((bx f).add 0).add 0) fun aa => qa1 (aa == 16) (ldS b (((bx e).add 1).add 0) fun ab ac aD => (idx a ac ab fun ad => ldS b (((ad.add ((a.toNat) * 3)).add 1).add 0) fun aE ae aF => K (.bool (((ae : Nat) : Int) == 1)) b)) (ldI b ((bx f).add 0) fun af => ldI b ((bx f).add 1) fun ag => ldI b ((bx f).add 2) fun ah => ldI b ((bx f).add 3) fun ai => Cl 121 #[(.agg #[(iv af), (iv ag), (iv ah), (iv ai)])] b fun aj c => (∃ (r : Bool), aj = (.bool r) ∧ qa1 r ((∃ d : Nat → Prop, ldSM d c ((bx e).add 1) 0 fun ak al aG => (idx a al ak fun m => ldIM d c (m.add ((a.toNat) * 3)) 0 fun am => ldSM d c (m.add ((a.toNat) * 3)) 1 fun an ao ap => ldSM d c (m.add ((a.toNat) * 3)) 2 fun aq ar au => ldSM d c ((bx e).add 0) 0 fun av aw ax => Cl 122 #[(.agg #[(iv am), (sv an ao ap), (sv aq ar au)]), (sv av aw ax)] c.drew fun ay n => (∃ (s : Bool), ay = (.bool s) ∧ qab d c n ∧ qa1 (!s) (K (.bool true) n) (ldSM d c ((bx e).add 1) 0 fun az aA aH => (idx a aA az fun aB => ldSM d c ((aB.add ((a.toNat) * 3)).add 1) 0 fun aI aC aJ => K (.bool (decide ((wrap .i64 (((aC : Nat) : Int) + 2)) ≤ 24))) n)))))) (K (.bool true) c)))))))

def qaR.ann : Ann := (.seq .l (.seq .l (.seq (.one (.cut [(13, .bool)] .l (.two (.seq .l .l) (.seq .l (.two (.seq .l .l) (.seq .l (.two (.seq .l .l) .l))))))) (.seq .l .l))))

theorem qaR.con {d : D.Block} {m n o : OA} {p q s : Nat} {i : Int} {r : Bool} {w : World} (T : M.qeK d i) (j : r = M.qaR d i) (t : Row el84 w m d.Code) (u : d.Code.length ≤ p) (k : RowW 52 el91 el3 w n d.Warps) (z : d.Warps.length ≤ q) (E : Row el3 w o d.Memory) (F : d.Memory.length ≤ s) :
    Cl 61 #[(.agg (bC m p n q o s d)), (iv i)] w (fun U l => U = (.bool r) ∧ Ext w l) := by
 have H := wp.qaR.math d i T
 refine begK mixed Tryz.f61 ann (vc m d.Code.length p n d.Warps.length q o d.Memory.length s d.Waiting d.Phase i) ?_
 unfold vc
 unfold wp.qaR at H
 refine qaL (fun V ap L4 c W => ?_)
 have b := qa6 (Ext.refl w) W
 refine ⟨_, _, _, (c.a 0), _, _, _, (c.a 1), _, _, _, (c.a 2), _, (c.a 3), _, (c.a 4), ?_⟩
 obtain ⟨X, H⟩ := H
 obtain ⟨f, Y, H⟩ := qaa H
 refine (qaC.con X Y (t.ext b) u (k.ext b) z (E.ext b) F).mono ?_
 rintro _ aq ⟨rfl, G⟩
 refine ⟨(.agg (iC f.1)), f.1.Op, trivial, f.1.A, trivial, f.1.B, trivial, f.1.C, trivial, rfl, (.bool f.2), f.2, rfl, rfl, ?_⟩
 refine qid (iC f.1) (fun Z ar L5 e I => ?_)
 have c := (c.ext G).ext I
 have b := qa6 (qa6 b G) I
 obtain ⟨a0, a1, H⟩ := qd9 H
 refine ⟨fun z_ l => ∃ (v : Bool), z_ = (v, ()) ∧ a0 (v, ()) ∧ Ext w l ∧ Blk l V 33 (bC m p n q o s d) ∧ Blk l Z 84 (iC f.1), ?_, ?_⟩
 ·apply brc H<;>intro h H
  ·exact ⟨true, rfl, H, b, c, e⟩
  refine ⟨_, _, _, (c.a 0), _, _, _, (c.a 1), _, _, _, (c.a 2), _, (c.a 3), _, (c.a 4), ?_⟩
  obtain ⟨a2, H⟩ := H
  obtain ⟨J, a3, H⟩ := qaa H
  refine (qbI.con a2 a3 (t.ext b) u (k.ext b) z (E.ext b) F).mono ?_
  rintro _ au ⟨rfl, x⟩
  have c := c.ext x
  have e := e.ext x
  have b := qa6 b x
  refine ⟨J, rfl, ?_⟩
  exact ⟨J, rfl, H, b, c, e⟩
 rintro _ av ⟨v, rfl, H, b, c, e⟩
 have H := a1 _ H
 try dsimp only at H ⊢
 apply brc H<;>intro h H
 ·cases j.trans H.symm
  exact ⟨rfl, b⟩
 refine ⟨_, (e.a 0), ?_⟩
 apply brc H<;>intro h H
 ·refine ⟨_, _, _, (c.a 1), ?_⟩
  obtain ⟨⟨K, L⟩, H⟩ := H
  obtain ⟨a4, a5, aw, ax, ay, az, aA, a6, aB, aC, aD, aE, aF⟩ := RowW.at k K L
  refine ⟨K, L, a4, a5, _, _, _, (Ext.cell b a6), ?_⟩
  cases j.trans H.symm
  exact ⟨rfl, b⟩
 refine ⟨_, (e.a 0), _, (e.a 1), _, (e.a 2), _, (e.a 3), ?_⟩
 obtain ⟨a7, a8, H⟩ := qaa H
 refine (qcF.con a8 ).mono ?_
 rintro _ a9 ⟨rfl, N⟩
 have c := c.ext N
 have b := qa6 b N
 refine ⟨a7, rfl, ?_⟩
 apply brc H<;>intro h H
 ·refine ⟨(fun _ => False), ?_⟩
  have hBz := b
  have Z4 := c
  refine ⟨_, _, _, noM (c.a 1), ?_⟩
  obtain ⟨⟨O, P⟩, H⟩ := H
  obtain ⟨aa, ab, aG, aH, aI, aJ, ac, ad, ae, af, ag, ah, ai⟩ := RowW.at k O P
  refine ⟨O, P, aa, ab, _, ⟨(fun g => g), (Ext.cell b ac)⟩, _, _, _, ⟨(fun g => g), (Ext.cell b ad)⟩, _, _, _, ⟨(fun g => g), (Ext.cell b ae)⟩, _, _, _, noM (c.a 0), ?_⟩
  have b := qa6 b (Ext.drew _)
  have y := (Chg.refl (fun _ => False) a9).then (Ext.drew _)
  obtain ⟨aj, H⟩ := H
  obtain ⟨ak, al, H⟩ := qaa H
  refine (cllA (qb4.con aj al (af.ext b) ag (ah.ext b) ai (t.ext b) u)).mono ?_
  rintro _ aK ⟨rfl, Q⟩
  have b := qa6 b Q
  have y := y.then Q
  refine ⟨ak, rfl, qaw y, ?_⟩
  apply brc H<;>intro h H
  ·cases j.trans H.symm
   exact ⟨rfl, b⟩
  refine ⟨_, _, _, ⟨(fun g => g), (Z4.at 1 rfl rfl)⟩, ?_⟩
  obtain ⟨⟨R, S⟩, H⟩ := H
  obtain ⟨am, an, aL, aM, aN, aO, aP, ao, aQ, aR, aS, aT, aU⟩ := RowW.at k R S
  refine ⟨R, S, am, an, _, _, _, ⟨(fun g => g), (Ext.cell hBz ao)⟩, ?_⟩
  cases j.trans H.symm
  exact ⟨rfl, b⟩
 cases j.trans H.symm
 exact ⟨rfl, b⟩
def qdC.vc (i : OA) (j k : Nat) (l : OA) (m n : Nat) (o : OA) (p q : Nat) (r s d : Int) (w : World) (K : VK) : Prop :=
  newK w (.cells (vB i j k l m n o p q r s) 33) fun e f => ldS f (((bx e).add 1).add 0) fun H a I => ((((a : Nat) : Int) : Int) ≠ 0 ∧ qdh (σ := Int × Unit) (fun b c t => qa1 (decide (b.1 < ((a : Nat) : Int))) (((((a : Nat) : Int) : Int) ≠ 0 ∧ ldB c (bx e) fun u v x y z A B C D E F => Cl 64 #[(.agg (vB u v x y z A B C D E F)), (iv (Int.tmod (wrap .i64 ((Int.tmod d ((a : Nat) : Int)) + b.1)) ((a : Nat) : Int)))] c fun G g => (∃ (h : Bool), G = (.bool h) ∧ qa1 h (K (iv (Int.tmod (wrap .i64 ((Int.tmod d ((a : Nat) : Int)) + b.1)) ((a : Nat) : Int))) g) (t ((wrap .i64 (b.1 + 1)), ()) g)))) (K (iv (-1)) c)) (0, ()) f)

def qdC.ann : Ann := (.seq .l (.seq .l (.seq .l (.seq (.seq .l (.one (.loop [(7, .int .i64)] (.seq (.seq .l (.two .l .l)) (.seq (.one (.seq .l (.seq .l (.two (.seq .l .l) .l)))) .l))))) (.seq .l .l)))))

theorem qdC.con {b : D.Block} {f g i : OA} {j k l : Nat} {e r : Int} {w : World} (t : M.qgw b e) (o : r = M.qdC b e) (u : Row el84 w f b.Code) (v : b.Code.length ≤ j) (x : RowW 52 el91 el3 w g b.Warps) (y : b.Warps.length ≤ k) (z : Row el3 w i b.Memory) (A : b.Memory.length ≤ l) :
    Cl 163 #[(.agg (bC f j g k i l b)), (iv e)] w (fun B m => B = (iv r) ∧ Ext w m) := by
 have H := wp.qdC.math b e t
 refine begK mixed Tryz.f163 ann (vc f b.Code.length j g b.Warps.length k i b.Memory.length l b.Waiting b.Phase e) ?_
 unfold vc
 unfold wp.qdC at H
 refine qaL (fun C V W c E => ?_)
 have d := qa6 (Ext.refl w) E
 refine ⟨_, _, _, (c.a 1), ?_⟩
 obtain ⟨F, H⟩ := H
 refine ⟨F, ?_⟩
 obtain ⟨G, ⟨I, J⟩, p⟩ := H
 refine ⟨fun K L m => ∃ (n : Int), L = (n, ()) ∧ G K (n, ()) ∧ Ext w m ∧ Blk m C 33 (bC f j g k i l b), ⟨I, 0, rfl, J, d, c⟩, ?_⟩
 rintro N _ X ⟨n, rfl, q, d, c⟩
 have H := p N _ q
 clear p q
 try dsimp only at H ⊢
 apply brc H<;>intro h H
 ·obtain ⟨O, H⟩ := H
  refine ⟨O, _, _, _, (c.a 0), _, _, _, (c.a 1), _, _, _, (c.a 2), _, (c.a 3), _, (c.a 4), ?_⟩
  obtain ⟨P, H⟩ := H
  obtain ⟨Q, R, H⟩ := qaa H
  refine (qcI.con P R (u.ext d) v (x.ext d) y (z.ext d) A).mono ?_
  rintro _ Y ⟨rfl, s⟩
  have c := c.ext s
  have d := qa6 d s
  refine ⟨Q, rfl, ?_⟩
  apply brc H<;>intro h H
  ·cases o.trans H.symm
   exact ⟨rfl, d⟩
  obtain ⟨S, T, U⟩ := H
  exact ⟨S, T, _, rfl, U, d, c⟩
 cases o.trans H.symm
 exact ⟨rfl, d⟩
def qbe.vc (i : OA) (j k : Nat) (l : OA) (m n : Nat) (o : OA) (p q : Nat) (r s d : Int) (w : World) (K : VK) : Prop :=
  newK w (.cells (vB i j k l m n o p q r s) 33) fun e f => ldS f (((bx e).add 1).add 0) fun H a I => qdh (σ := Int × Unit) (fun b c t => qa1 (decide (b.1 < ((a : Nat) : Int))) (((((a : Nat) : Int) : Int) ≠ 0 ∧ ((((a : Nat) : Int) : Int) ≠ 0 ∧ ldB c (bx e) fun u v x y z A B C D E F => Cl 61 #[(.agg (vB u v x y z A B C D E F)), (iv (Int.tmod (wrap .i64 ((Int.tmod d ((a : Nat) : Int)) + b.1)) ((a : Nat) : Int)))] c fun G g => (∃ (h : Bool), G = (.bool h) ∧ qa1 h (K (iv (Int.tmod (wrap .i64 ((Int.tmod d ((a : Nat) : Int)) + b.1)) ((a : Nat) : Int))) g) (t ((wrap .i64 (b.1 + 1)), ()) g))))) (K (iv (-1)) c)) (0, ()) f

def qbe.ann : Ann := (.seq .l (.seq .l (.seq (.seq .l (.one (.loop [(12, .int .i64)] (.seq .l (.seq (.two .l .l) (.seq (.one (.seq .l (.seq .l (.seq .l (.two (.seq .l .l) .l))))) .l)))))) (.seq .l .l))))

theorem qbe.con {b : D.Block} {f g i : OA} {j k l : Nat} {e r : Int} {w : World} (t : M.qe4 b e) (o : r = M.qbe b e) (u : Row el84 w f b.Code) (v : b.Code.length ≤ j) (x : RowW 52 el91 el3 w g b.Warps) (y : b.Warps.length ≤ k) (z : Row el3 w i b.Memory) (A : b.Memory.length ≤ l) :
    Cl 81 #[(.agg (bC f j g k i l b)), (iv e)] w (fun B m => B = (iv r) ∧ Ext w m) := by
 have H := wp.qbe.math b e t
 refine begK mixed Tryz.f81 ann (vc f b.Code.length j g b.Warps.length k i b.Memory.length l b.Waiting b.Phase e) ?_
 unfold vc
 unfold wp.qbe at H
 refine qaL (fun C V W c E => ?_)
 have d := qa6 (Ext.refl w) E
 refine ⟨_, _, _, (c.a 1), ?_⟩
 obtain ⟨F, ⟨G, I⟩, p⟩ := H
 refine ⟨fun J K m => ∃ (n : Int), K = (n, ()) ∧ F J (n, ()) ∧ Ext w m ∧ Blk m C 33 (bC f j g k i l b), ⟨G, 0, rfl, I, d, c⟩, ?_⟩
 rintro L _ X ⟨n, rfl, q, d, c⟩
 have H := p L _ q
 clear p q
 try dsimp only at H ⊢
 apply brc H<;>intro h H
 ·obtain ⟨N, H⟩ := H
  refine ⟨N, ?_⟩
  obtain ⟨O, H⟩ := H
  refine ⟨O, _, _, _, (c.a 0), _, _, _, (c.a 1), _, _, _, (c.a 2), _, (c.a 3), _, (c.a 4), ?_⟩
  obtain ⟨P, H⟩ := H
  obtain ⟨Q, R, H⟩ := qaa H
  refine (qaR.con P R (u.ext d) v (x.ext d) y (z.ext d) A).mono ?_
  rintro _ Y ⟨rfl, s⟩
  have c := c.ext s
  have d := qa6 d s
  refine ⟨Q, rfl, ?_⟩
  apply brc H<;>intro h H
  ·cases o.trans H.symm
   exact ⟨rfl, d⟩
  obtain ⟨S, T, U⟩ := H
  exact ⟨S, T, _, rfl, U, d, c⟩
 cases o.trans H.symm
 exact ⟨rfl, d⟩
def qd3.vc (d : OA) (c A : Nat) (o : Int) (w : World) (K : VK) : Prop :=
  Run Tryz.prog (Instr.buildSlice 24 0 #[]) w fun p q => ∃ (e : OA) (f g : Nat), p = .slice e f g ∧ qdh (σ := (OA × Nat × Nat) × Int × Unit) (fun a b h => qa1 (decide (a.2.1 < ((c : Nat) : Int))) ((idx a.2.1 c d fun r => ldI b ((r.add ((a.2.1.toNat) * 1)).add 0) fun s => qa1 (s != o) ((idx a.2.1 c d fun t => ldI b ((t.add ((a.2.1.toNat) * 1)).add 0) fun u => Run Tryz.prog (Instr.buildSlice 24 1 #[(0, (iv u))]) b fun v x => ∃ (i : OA) (j k : Nat), v = .slice i j k ∧ Run Tryz.prog (Builtin.append_ #[24, 24] 24 #[(sv a.1.1 a.1.2.1 a.1.2.2), (sv i j k)]) x fun y z => ∃ (l : OA) (m n : Nat), y = .slice l m n ∧ h ((l, m, n), (wrap .i64 (a.2.1 + 1)), ()) z)) (h ((a.1.1, a.1.2.1, a.1.2.2), (wrap .i64 (a.2.1 + 1)), ()) b))) (K (sv a.1.1 a.1.2.1 a.1.2.2) b)) ((e, f, g), 0, ()) q

def qd3.ann : Ann := (.seq .l (.seq .l (.seq (.seq .l (.one (.loop [(5, .sl), (6, .int .i64)] (.seq (.seq .l (.two .l .l)) (.seq (.one (.seq .l (.two .l .l))) .l))))) (.seq .l .l))))

theorem qd3.con {b r : List Int} {k : OA} {l : Nat} {d : Int} {w : World} (y : M.qfH b d) (z : r = M.qd3 b d) (m : Row el3 w k b) (a6 : b.length ≤ l) :
    Cl 253 #[(sv k b.length l), (iv d)] w (fun A e => ∃ (n : OA) (o : Nat), A = (sv n r.length o) ∧ Own el3 e w.heap.size n o r ∧ Ext w e) := by
 have H := wp.qd3.math b d y
 have a := Ext.refl w
 refine begK mixed Tryz.f253 ann (vc k b.length l d) ?_
 unfold vc
 unfold wp.qd3 at H
 refine qaz el3 ([] : List Int) (fun _ => by kernel_rfl) rfl (fun B a7 C D => ?_)
 have E := C.mono a.size
 have a := qa6 a D
 obtain ⟨F, ⟨G, I⟩, p⟩ := H
 refine ⟨fun J K e => ∃ (f : List Int) (j : Int) (g : OA) (i : Nat), K = ((g, f.length, i), j, ()) ∧ F J (f, j, ()) ∧ Ext w e ∧ Own el3 e w.heap.size g i f, ⟨G, ([] : List Int), 0, B, 0, rfl, I, a, E⟩, ?_⟩
 rintro L _ a8 ⟨f, j, g, i, rfl, q, a, c⟩
 have H := p L _ q
 clear p q
 try dsimp only at H ⊢
 apply brc H<;>intro h H
 ·obtain ⟨⟨s, t⟩, H⟩ := H
  obtain ⟨N, O, P⟩ := Row.at (m.ext a) s t
  refine ⟨s, t, N, O, _, (P 0 _ rfl), ?_⟩
  apply brc H<;>intro h H
  ·obtain ⟨⟨u, v⟩, H⟩ := H
   obtain ⟨Q, R, S⟩ := Row.at (m.ext a) u v
   refine ⟨u, v, Q, R, _, (S 0 _ rfl), ?_⟩
   refine qaz el3 ([(rd b j)] : List Int) (fun _ => by kernel_rfl) rfl (fun a9 aa T x => ?_)
   have c := c.ext x
   have U := T.mono a.size
   have a := qa6 a x
   obtain ⟨V, H⟩ := H
   refine appO qgO c U.row a.size V (fun W X ab Y Z => ?_)
   have a := eapp a Z c
   have c := Y
   obtain ⟨a0, a1, a2⟩ := H
   exact ⟨a0, a1, _, _, W, X, rfl, a2, a, c⟩
  obtain ⟨a3, a4, a5⟩ := H
  exact ⟨a3, a4, f, _, g, i, rfl, a5, a, c⟩
 cases z.trans H.symm
 exact ⟨g, i, rfl, c, a⟩
def qdU.vc (e : OA) (a f : Nat) (g : Int) (w : World) (K : VK) : Prop :=
  Cl 160 #[(sv e a f)] w fun h b => (∃ (c : Bool), h = (.bool c) ∧ qa1 c (Cl 99 #[(iv g), (iv 0), (iv ((a : Nat) : Int))] b fun i j => (∃ (d : Bool), i = (.bool d) ∧ K (.bool d) j)) (K (.bool false) b))

def qdU.ann : Ann := (.seq .l (.seq .l .l))

theorem qdU.con {a : List D.Ins} {d : OA} {e : Nat} {c : Int} {r : Bool} {w : World} (g : M.qh9 a c) (f : r = M.qdU a c) (i : Row el84 w d a) (j : a.length ≤ e) :
    Cl 250 #[(sv d a.length e), (iv c)] w (fun k l => k = (.bool r) ∧ Ext w l) := by
 have H := wp.qdU.math a c g
 have b := Ext.refl w
 refine begK mixed Tryz.f250 ann (vc d a.length e c) ?_
 unfold vc
 unfold wp.qdU at H
 obtain ⟨m, H⟩ := H
 obtain ⟨n, o, H⟩ := qaa H
 refine (qbh.con m o (i.ext b) j).mono ?_
 rintro _ u ⟨rfl, p⟩
 have b := qa6 b p
 refine ⟨n, rfl, ?_⟩
 apply brc H<;>intro h H
 ·obtain ⟨q, s, H⟩ := qaa H
  refine (qaV.con s ).mono ?_
  rintro _ v ⟨rfl, t⟩
  have b := qa6 b t
  refine ⟨q, rfl, ?_⟩
  cases f.trans H.symm
  exact ⟨rfl, b⟩
 cases f.trans H.symm
 exact ⟨rfl, b⟩
def qbf.vc (b : OA) (c e : Nat) (h : Int) (w : World) (K : VK) : Prop :=
  qfo (σ := Int × Unit) (fun i => qdh (σ := Int × Unit) (fun d f A => qa1 (decide (d.1 > 0)) ((idx (wrap .i64 (d.1 - 1)) c b fun B => ldI f ((B.add (((wrap .i64 (d.1 - 1)).toNat) * 1)).add 0) fun C => qa1 (decide (C > h)) (A ((wrap .i64 (d.1 - 1)), ()) f) (i (d.1, ()) f))) (i (d.1, ()) f)) (((c : Nat) : Int), ()) w) fun a g => qfo (σ := Unit) (fun j => qa1 (decide (a.1 > 0)) ((idx (wrap .i64 (a.1 - 1)) c b fun D => ldI g ((D.add (((wrap .i64 (a.1 - 1)).toNat) * 1)).add 0) fun E => qa1 (E == h) (K (sv b c e) g) (j () g))) (j () g)) fun R F => Run Tryz.prog (Instr.buildSlice 24 0 #[]) F fun G H => ∃ (k : OA) (l m : Nat), G = .slice k l m ∧ ((0 : Int) ≤ a.1 ∧ a.1 ≤ ((e : Nat) : Int) ∧ Run Tryz.prog (Builtin.append_ #[24, 24] 24 #[(sv k l m), (sv b (a.1.toNat) e)]) H fun I J => ∃ (n : OA) (o p : Nat), I = .slice n o p ∧ Run Tryz.prog (Instr.buildSlice 24 1 #[(0, (iv h))]) J fun L M => ∃ (q : OA) (r s : Nat), L = .slice q r s ∧ Run Tryz.prog (Builtin.append_ #[24, 24] 24 #[(sv n o p), (sv q r s)]) M fun N O => ∃ (t : OA) (u v : Nat), N = .slice t u v ∧ ((0 : Int) ≤ a.1 ∧ a.1 ≤ ((c : Nat) : Int) ∧ Run Tryz.prog (Builtin.append_ #[24, 24] 24 #[(sv t u v), (sv (if e = (a.1.toNat) then b else b.map (·.add ((a.1.toNat) * szOf Tryz.prog 3))) (c - (a.1.toNat)) (e - (a.1.toNat)))]) O fun P Q => ∃ (x : OA) (y z : Nat), P = .slice x y z ∧ K (sv x y z) Q))

def qbf.ann : Ann := (.seq .l (.seq .l (.cut [(5, .int .i64)] (.one (.loop [(5, .int .i64)] (.seq (.seq .l (.two .l .l)) (.one .l)))) (.cut [] (.seq .l (.two (.seq .l .l) .l)) (.seq .l (.seq .l (.seq .l .l)))))))

theorem qbf.con {f r : List Int} {c : OA} {j : Nat} {k : Int} {w : World} (G : M.qgM f k) (v : r = M.qbf f k) (b : Own el3 w 0 c j f) :
    Cl 102 #[(sv c f.length j), (iv k)] w (fun I d => ∃ (s : OA) (x : Nat), I = (sv s r.length x) ∧ Own el3 d 0 s x r ∧ Mov w c s ∧ Chg (InB c) w d) := by
 have H := wp.qbf.math f k G
 have a := Chg.refl (InB c) w
 refine begK mixed Tryz.f102 ann (vc c f.length j k) ?_
 unfold vc
 unfold wp.qbf at H
 obtain ⟨J, K, H⟩ := qd9 H
 refine ⟨fun m d => ∃ (n : Int), m = (n, ()) ∧ J (n, ()) ∧ Chg (InB c) w d ∧ Own el3 d 0 c j f, ?_, ?_⟩
 ·obtain ⟨L, ⟨N, O⟩, y⟩ := H
  refine ⟨fun P m d => ∃ (o : Int), m = (o, ()) ∧ L P (o, ()) ∧ Chg (InB c) w d ∧ Own el3 d 0 c j f, ⟨N, (f.length : Int), rfl, O, a, b⟩, ?_⟩
  rintro Q _ ad ⟨o, rfl, z, a, b⟩
  have H := y Q _ z
  clear y z
  try dsimp only at H ⊢
  apply brc H<;>intro h H
  ·obtain ⟨⟨A, B⟩, H⟩ := H
   obtain ⟨R, S, T⟩ := Row.at b.row A B
   refine ⟨A, B, R, S, _, (T 0 _ rfl), ?_⟩
   apply brc H<;>intro h H
   ·obtain ⟨U, V, W⟩ := H
    exact ⟨U, V, _, rfl, W, a, b⟩
   exact ⟨o, rfl, H, a, b⟩
  exact ⟨o, rfl, H, a, b⟩
 rintro _ ae ⟨n, rfl, H, a, b⟩
 have H := K _ H
 try dsimp only at H ⊢
 obtain ⟨X, Y, H⟩ := qd9 H
 refine ⟨fun m d => m = (()) ∧ X (()) ∧ Chg (InB c) w d ∧ Own el3 d 0 c j f, ?_, ?_⟩
 ·apply brc H<;>intro h H
  ·obtain ⟨⟨C, D⟩, H⟩ := H
   obtain ⟨Z, a0, a1⟩ := Row.at b.row C D
   refine ⟨C, D, Z, a0, _, (a1 0 _ rfl), ?_⟩
   apply brc H<;>intro h H
   ·cases v.trans H.symm
    exact ⟨c, j, rfl, (b.mono (Nat.zero_le _)), (Mov.same _ _), a⟩
   exact ⟨rfl, H, a, b⟩
  exact ⟨rfl, H, a, b⟩
 rintro _ af ⟨rfl, H, a, b⟩
 have H := Y _ H
 try dsimp only at H ⊢
 refine qaz el3 ([] : List Int) (fun _ => by kernel_rfl) rfl (fun ag ah i E => ?_)
 have q := aN b i
 have b := b.ext E
 have e := i.mono a.size
 have a := a.then E
 obtain ⟨⟨a2, a3⟩, H⟩ := H
 refine and_assoc.1 ⟨⟨a2, Int.le_trans a3 (Int.ofNat_le.2 b.le)⟩, ?_⟩
 have O3 := (b.take (n.toNat))
 obtain ⟨a4, H⟩ := H
 refine appO qgO e O3.row a.size a4 (fun ai aj ak i t => ?_)
 have a5 := qec.app q t b
 have b := b.app t q
 have q := a5
 have a := a.app t (fun g p => Or.inl (e.low g p))
 refine qaz el3 ([k] : List Int) (fun _ => by kernel_rfl) rfl (fun al am P4 u => ?_)
 have e := i.ext u
 have O4 := P4.mono a.size
 have a := a.then u
 obtain ⟨a6, H⟩ := H
 refine appO qgO e O4.row a.size a6 (fun an ao ap i F => ?_)
 have b := (b.ext u).app F q
 have a := a.app F (fun g p => Or.inl (e.low g p))
 have e := i
 obtain ⟨⟨a7, a8⟩, H⟩ := H
 refine and_assoc.1 ⟨⟨a7, a8⟩, ?_⟩
 have O5 := (b.drop (l := (n.toNat)) (by first | omega | (simp; done) | (simp; omega)))
 obtain ⟨a9, H⟩ := H
 refine appO qgO e O5.row a.size a9 (fun aa ab aq i ac => ?_)
 have a := a.app ac (fun g p => Or.inl (e.low g p))
 have e := i
 cases v.trans H.symm
 exact ⟨aa, ab, rfl, (e.mono (Nat.zero_le _)), (Mov.new e), a⟩
def qcr.vc (c : OA) (b P : Nat) (a : Int) (w : World) (K : VK) : Prop :=
  qa1 (a == ((b : Nat) : Int)) (Run Tryz.prog (Instr.buildSlice 24 0 #[]) w fun y z => ∃ (e : OA) (f g : Nat), y = .slice e f g ∧ K (sv e f g) z) ((idx a b c fun A => ldI w (((A.add ((a.toNat) * 4)).add 0).add 0) fun d => qa1 (d == 12) (Run Tryz.prog (Instr.buildSlice 24 1 #[(0, (iv ((b : Nat) : Int)))]) w fun B C => ∃ (h : OA) (i j : Nat), B = .slice h i j ∧ K (sv h i j) C) (qa1 (d == 11) ((idx a b c fun D => ldI w (((D.add ((a.toNat) * 4)).add 2).add 0) fun E => Run Tryz.prog (Instr.buildSlice 24 1 #[(0, (iv E))]) w fun F G => ∃ (k : OA) (l m : Nat), F = .slice k l m ∧ K (sv k l m) G)) (qa1 (d == 10) (Run Tryz.prog (Instr.buildSlice 24 1 #[(0, (iv (wrap .i64 (a + 1))))]) w fun H n => ∃ (o : OA) (p q : Nat), H = .slice o p q ∧ (idx a b c fun I => ldI n (((I.add ((a.toNat) * 4)).add 2).add 0) fun J => Cl 102 #[(sv o p q), (iv J)] n fun L M => (∃ (r : OA) (s t : Nat), L = (sv r s t) ∧ K (sv r s t) M))) (Run Tryz.prog (Instr.buildSlice 24 1 #[(0, (iv (wrap .i64 (a + 1))))]) w fun N O => ∃ (u : OA) (v x : Nat), N = .slice u v x ∧ K (sv u v x) O)))))

def qcr.ann : Ann := (.seq .l (.seq (.seq .l (.two (.seq .l .l) .l)) (.seq (.seq .l (.one (.seq .l (.two (.seq .l .l) (.seq .l (.two (.seq .l .l) (.seq .l (.two (.seq .l .l) .l)))))))) (.seq .l .l))))

theorem qcr.con {b : List D.Ins} {e : OA} {f : Nat} {c : Int} {r : List Int} {w : World} (A : M.qfi b c) (d : r = M.qcr b c) (g : Row el84 w e b) (a8 : b.length ≤ f) :
    Cl 259 #[(sv e b.length f), (iv c)] w (fun C j => ∃ (k : OA) (l : Nat), C = (sv k r.length l) ∧ Own el3 j w.heap.size k l r ∧ Ext w j) := by
 have H := wp.qcr.math b c A
 have a := Ext.refl w
 refine begK mixed Tryz.f259 ann (vc e b.length f c) ?_
 unfold vc
 unfold wp.qcr at H
 apply brc H<;>intro h H
 ·refine qaz el3 ([] : List Int) (fun _ => by kernel_rfl) rfl (fun E a9 F G => ?_)
  have m := F.mono a.size
  have a := qa6 a G
  cases d.trans H.symm
  exact ⟨E, 0, (by first | rfl | (simp; done) | (simp; omega) | (simp [*]; done)), (by first | exact m | (simp only [bC, wC, List.length_set]; exact m)), a⟩
 obtain ⟨⟨n, o⟩, H⟩ := H
 obtain ⟨I, J, K⟩ := Row.at (g.ext a) n o
 refine ⟨n, o, I, J, _, (K 0 _ rfl), ?_⟩
 apply brc H<;>intro h H
 ·refine qaz el3 ([(b.length : Int)] : List Int) (fun _ => by kernel_rfl) rfl (fun L aa N O => ?_)
  have p := N.mono a.size
  have a := qa6 a O
  cases d.trans H.symm
  exact ⟨L, 1, (by first | rfl | (simp; done) | (simp; omega) | (simp [*]; done)), (by first | exact p | (simp only [bC, wC, List.length_set]; exact p)), a⟩
 apply brc H<;>intro h H
 ·obtain ⟨⟨q, s⟩, H⟩ := H
  obtain ⟨P, Q, R⟩ := Row.at (g.ext a) q s
  refine ⟨q, s, P, Q, _, (R 2 _ rfl), ?_⟩
  refine qaz el3 ([(rd b c).B] : List Int) (fun _ => by kernel_rfl) rfl (fun S ab T U => ?_)
  have t := T.mono a.size
  have a := qa6 a U
  cases d.trans H.symm
  exact ⟨S, 1, (by first | rfl | (simp; done) | (simp; omega) | (simp [*]; done)), (by first | exact t | (simp only [bC, wC, List.length_set]; exact t)), a⟩
 apply brc H<;>intro h H
 ·refine qaz el3 ([(wrap .i64 (c + 1))] : List Int) (fun _ => by kernel_rfl) rfl (fun ac ad V W => ?_)
  have i := V.mono a.size
  have a := qa6 a W
  obtain ⟨⟨u, v⟩, H⟩ := H
  obtain ⟨X, Y, Z⟩ := Row.at (g.ext a) u v
  refine ⟨u, v, X, Y, _, (Z 2 _ rfl), ?_⟩
  obtain ⟨a0, H⟩ := H
  obtain ⟨a1, a2, H⟩ := qaa H
  refine (cllA (qbf.con a0 a2 (i.mono (Nat.zero_le _)))).mono ?_
  rintro _ ae ⟨x, y, rfl, P6, a3, a4⟩
  have a5 := a3.low i.low a.size
  have a := Chg.ext a a4 i.low
  have O6 := P6.lift a5
  refine ⟨x, a1.length, y, rfl, ?_⟩
  cases d.trans H.symm
  exact ⟨x, y, rfl, O6, a⟩
 refine qaz el3 ([(wrap .i64 (c + 1))] : List Int) (fun _ => by kernel_rfl) rfl (fun a6 af P7 a7 => ?_)
 have z := P7.mono a.size
 have a := qa6 a a7
 cases d.trans H.symm
 exact ⟨a6, 1, (by first | rfl | (simp; done) | (simp; omega) | (simp [*]; done)), (by first | exact z | (simp only [bC, wC, List.length_set]; exact z)), a⟩
def qcL.vc (t : OA) (b u : Nat) (v : OA) (x y : Nat) (w : World) (K : VK) : Prop :=
  qfT Tryz.prog 149 (wrap .i64 (((b : Nat) : Int) + 1)) (wrap .i64 (((b : Nat) : Int) + 1)) w fun e z => Run Tryz.prog (Instr.buildSlice 24 0 #[]) z fun A B => ∃ (f : OA) (g h : Nat), A = .slice f g h ∧ Run Tryz.prog (Builtin.append_ #[24, 24] 24 #[(sv f g h), (sv v x y)]) B fun C D => ∃ (i : OA) (j k : Nat), C = .slice i j k ∧ qdh (σ := (OA × Nat × Nat) × Unit) (fun a c l => qa1 (decide (((a.1.2.1 : Nat) : Int) > 0)) ((idx 0 a.1.2.1 a.1.1 fun E => ldI c ((E.add (((0 : Int).toNat) * 1)).add 0) fun d => ((0 : Int) ≤ 1 ∧ 1 ≤ ((a.1.2.1 : Nat) : Int) ∧ (idx d ((wrap .i64 (((b : Nat) : Int) + 1)).toNat) ((some (bx e))) fun F => ∃ (m : Bool), c.cell? ((F.add ((d.toNat) * 1)).add 0) = some (.bool m) ∧ qa1 m (l (((if a.1.2.2 = ((1 : Int).toNat) then a.1.1 else a.1.1.map (·.add (((1 : Int).toNat) * szOf Tryz.prog 3))), (a.1.2.1 - ((1 : Int).toNat)), (a.1.2.2 - ((1 : Int).toNat))), ()) c) ((idx d ((wrap .i64 (((b : Nat) : Int) + 1)).toNat) ((some (bx e))) fun G => qa5 (G.add ((d.toNat) * 1)) [(.bool true)] 0 c fun H => Cl 259 #[(sv t b u), (iv d)] H fun I J => (∃ (n : OA) (o p : Nat), I = (sv n o p) ∧ Run Tryz.prog (Builtin.append_ #[24, 24] 24 #[(sv (if a.1.2.2 = ((1 : Int).toNat) then a.1.1 else a.1.1.map (·.add (((1 : Int).toNat) * szOf Tryz.prog 3))) (a.1.2.1 - ((1 : Int).toNat)) (a.1.2.2 - ((1 : Int).toNat))), (sv n o p)]) J fun L M => ∃ (q : OA) (r s : Nat), L = .slice q r s ∧ l ((q, r, s), ()) M))))))) (K (sv (some (bx e)) ((wrap .i64 (((b : Nat) : Int) + 1)).toNat) ((wrap .i64 (((b : Nat) : Int) + 1)).toNat)) c)) ((i, j, k), ()) D

def qcL.ann : Ann := (.seq .l (.seq .l (.seq .l (.seq (.one (.loop [(6, .sl)] (.seq (.seq .l (.two .l .l)) (.one (.seq .l (.seq .l (.seq (.seq .l (.two .l .l)) (.seq .l .l)))))))) (.seq .l .l)))))

theorem qcL.con {c : List D.Ins} {q s : OA} {t u : Nat} {e : List Int} {r : List Bool} {w : World} (R : M.qg2 c e) (S : r = M.qcL c e) (T : Row el84 w q c) (U : c.length ≤ t) (V : Row el3 w s e) (aB : e.length ≤ u) :
    Cl 251 #[(sv q c.length t), (sv s e.length u)] w (fun W g => ∃ (C : OA) (E : Nat), W = (sv C r.length E) ∧ Own el4 g w.heap.size C E r ∧ Ext w g) := by
 have H := wp.qcL.math c e R
 have a := Ext.refl w
 refine begK mixed Tryz.f251 ann (vc q c.length t s e.length u) ?_
 unfold vc
 unfold wp.qcL at H
 obtain ⟨⟨X, Y⟩, H⟩ := H
 refine qjR qo3 X Y (fun F aC v Z => ?_)
 have b := v.mono a.size
 have a := qa6 a Z
 refine qaz el3 ([] : List Int) (fun _ => by kernel_rfl) rfl (fun aD aE k G => ?_)
 have a0 := aN b k
 have m := k.mono a.size
 have a := qa6 a G
 obtain ⟨a1, H⟩ := H
 refine appO qgO m (V.ext a) a.size a1 (fun a2 a3 aF k I => ?_)
 have b := (b.ext G).app I a0
 have a := eapp a I m
 have m := k
 obtain ⟨a4, ⟨a5, a6⟩, J⟩ := H
 refine ⟨fun m_ z_ g => ∃ (i : List Int) (j : List Bool) (x : OA) (y : Nat), z_ = ((x, i.length, y), ()) ∧ a4 m_ (i, j, ()) ∧ Ext w g ∧ Own el3 g w.heap.size x y i ∧ Own el4 g w.heap.size (some (bx F)) ((wrap .i64 ((c.length : Int) + 1)).toNat) j ∧ ((wrap .i64 ((c.length : Int) + 1)).toNat) = j.length, ⟨a5, (([] : List Int) ++ e), (List.replicate ((wrap .i64 ((c.length : Int) + 1)).toNat) (default : Bool)), a2, a3, rfl, a6, a, m, b, (by first | rfl | assumption | omega | (simp; done) | (simp; omega) | (simp; assumption))⟩, ?_⟩
 rintro a7 _ aG ⟨i, j, x, y, rfl, K, a, f, b, L⟩
 have H := J a7 _ K
 clear J K
 try dsimp only at H ⊢
 apply brc H<;>intro h H
 ·obtain ⟨⟨N, O⟩, H⟩ := H
  obtain ⟨a8, a9, aa⟩ := Row.at f.row N O
  refine ⟨N, O, a8, a9, _, (aa 0 _ rfl), ?_⟩
  obtain ⟨⟨ab, ac⟩, H⟩ := H
  refine and_assoc.1 ⟨⟨ab, ac⟩, ?_⟩
  rw [show (i.length - ((1 : Int).toNat)) = ((List.drop ((1 : Int).toNat) i)).length from by first | rfl | (simp; done) | (simp; omega)]
  have d := (f.drop (l := ((1 : Int).toNat)) (by first | omega | (simp; done) | (simp; omega)))
  obtain ⟨⟨P, z⟩, H⟩ := H
  obtain ⟨ad, ae, af⟩ := Row.at b.row P z
  refine ⟨P, (by first | exact z | omega | (simp at z ⊢; omega)), ad, ae, _, (af 0 _ rfl), ?_⟩
  apply brc H<;>intro h H
  ·obtain ⟨ag, ah, ai⟩ := H
   exact ⟨ag, ah, _, j, _, _, rfl, ai, a, d, b, (by first | rfl | assumption | omega | (simp; done) | (simp; omega) | (simp; assumption))⟩
  obtain ⟨⟨A, n⟩, H⟩ := H
  obtain ⟨aj, o, aH⟩ := Row.at b.row A n
  refine ⟨A, (by first | exact n | omega | (simp at n ⊢; omega)), aj, o, ?_⟩
  refine Own.stA b o A n 0 true (fun aI v B ak => ?_)
  have al := f.chg B (((Own.qai f b (by decide))).left o)
  have d := d.chg B (((qhc (Own.qai f b (by decide)))).left o)
  have a := echg a B ak
  obtain ⟨am, H⟩ := H
  obtain ⟨an, ao, H⟩ := qaa H
  refine (qcr.con am ao (T.ext a) U).mono ?_
  rintro _ aJ ⟨ap, aq, rfl, ar, p⟩
  have b := v.ext p
  have f := al.ext p
  have d := d.ext p
  have au := ar.mono a.size
  have a := qa6 a p
  refine ⟨ap, an.length, aq, rfl, ?_⟩
  obtain ⟨av, H⟩ := H
  refine appO qgO d au.row a.size av (fun aw ax aK P9 Q => ?_)
  have b := b.app Q (qhc (Own.qai b f (by decide)).symm).symm
  have a := eapp a Q d
  have d := P9
  obtain ⟨ay, az, aA⟩ := H
  exact ⟨ay, az, _, _, aw, ax, rfl, aA, a, d, b, (by first | rfl | assumption | omega | (simp; done) | (simp; omega) | (simp; assumption))⟩
 cases S.trans H.symm
 exact ⟨(some (bx F)), ((wrap .i64 ((c.length : Int) + 1)).toNat), (by first | rfl | (rw [L]; done) | (simp; done) | (simp; omega) | (simp [*]; done)), (by first | exact b | (simp only [bC, wC, List.length_set]; exact b) | (rw [← L]; exact b)), a⟩
def qaN.vc (b : OA) (a c : Nat) (d : Int) (w : World) (K : VK) : Prop :=
  Cl 250 #[(sv b a c), (iv d)] w fun n e => (∃ (f : Bool), n = (.bool f) ∧ qa1 f (Run Tryz.prog (Instr.buildSlice 24 1 #[(0, (iv d))]) e fun o p => ∃ (g : OA) (h i : Nat), o = .slice g h i ∧ Cl 251 #[(sv b a c), (sv g h i)] p fun q j => (∃ (k : OA) (l r : Nat), q = (sv k l r) ∧ (idx ((a : Nat) : Int) l k fun s => ∃ (m : Bool), j.cell? ((s.add ((((a : Nat) : Int).toNat) * 1)).add 0) = some (.bool m) ∧ K (.bool m) j))) (K (.bool false) e))

def qaN.ann : Ann := (.seq .l (.seq .l .l))

theorem qaN.con {b : List D.Ins} {d : OA} {e : Nat} {c : Int} {r : Bool} {w : World} (m : M.qe2 b c) (f : r = M.qaN b c) (g : Row el84 w d b) (i : b.length ≤ e) :
    Cl 242 #[(sv d b.length e), (iv c)] w (fun n o => n = (.bool r) ∧ Ext w o) := by
 have H := wp.qaN.math b c m
 have a := Ext.refl w
 refine begK mixed Tryz.f242 ann (vc d b.length e c) ?_
 unfold vc
 unfold wp.qaN at H
 obtain ⟨p, H⟩ := H
 obtain ⟨q, s, H⟩ := qaa H
 refine (qdU.con p s (g.ext a) i).mono ?_
 rintro _ K ⟨rfl, t⟩
 have a := qa6 a t
 refine ⟨q, rfl, ?_⟩
 apply brc H<;>intro h H
 ·refine qaz el3 ([c] : List Int) (fun _ => by kernel_rfl) rfl (fun L N u v => ?_)
  have j := u.mono a.size
  have a := qa6 a v
  obtain ⟨x, H⟩ := H
  obtain ⟨y, z, H⟩ := qaa H
  refine (cllA (qcL.con x z (g.ext a) i j.row j.le)).mono ?_
  rintro _ O ⟨A, B, rfl, C, E⟩
  have F := C.mono a.size
  have a := qa6 a E
  refine ⟨A, y.length, B, rfl, ?_⟩
  obtain ⟨⟨k, l⟩, H⟩ := H
  obtain ⟨G, I, J⟩ := Row.at F.row k l
  refine ⟨k, l, G, I, _, (J 0 _ rfl), ?_⟩
  cases f.trans H.symm
  exact ⟨rfl, a⟩
 cases f.trans H.symm
 exact ⟨rfl, a⟩
def qcN.vc (s : OA) (d t : Nat) (f g : Int) (w : World) (K : VK) : Prop :=
  qa1 (f == g) (K (.bool true) w) (qfT Tryz.prog 149 (wrap .i64 (((d : Nat) : Int) + 1)) (wrap .i64 (((d : Nat) : Int) + 1)) w fun h u => Run Tryz.prog (Instr.buildSlice 24 1 #[(0, (iv f))]) u fun v x => ∃ (i : OA) (j k : Nat), v = .slice i j k ∧ qdh (σ := (OA × Nat × Nat) × Unit) (fun a b e => qa1 (decide (((a.1.2.1 : Nat) : Int) > 0)) ((idx 0 a.1.2.1 a.1.1 fun y => ldI b ((y.add (((0 : Int).toNat) * 1)).add 0) fun c => ((0 : Int) ≤ 1 ∧ 1 ≤ ((a.1.2.1 : Nat) : Int) ∧ (idx c ((wrap .i64 (((d : Nat) : Int) + 1)).toNat) ((some (bx h))) fun z => ∃ (l : Bool), b.cell? ((z.add ((c.toNat) * 1)).add 0) = some (.bool l) ∧ qa1 l (e (((if a.1.2.2 = ((1 : Int).toNat) then a.1.1 else a.1.1.map (·.add (((1 : Int).toNat) * szOf Tryz.prog 3))), (a.1.2.1 - ((1 : Int).toNat)), (a.1.2.2 - ((1 : Int).toNat))), ()) b) (qa1 (c == g) (e (((if a.1.2.2 = ((1 : Int).toNat) then a.1.1 else a.1.1.map (·.add (((1 : Int).toNat) * szOf Tryz.prog 3))), (a.1.2.1 - ((1 : Int).toNat)), (a.1.2.2 - ((1 : Int).toNat))), ()) b) (qa1 (c == ((d : Nat) : Int)) (K (.bool false) b) ((idx c ((wrap .i64 (((d : Nat) : Int) + 1)).toNat) ((some (bx h))) fun A => qa5 (A.add ((c.toNat) * 1)) [(.bool true)] 0 b fun B => Cl 259 #[(sv s d t), (iv c)] B fun C D => (∃ (m : OA) (n o : Nat), C = (sv m n o) ∧ Run Tryz.prog (Builtin.append_ #[24, 24] 24 #[(sv (if a.1.2.2 = ((1 : Int).toNat) then a.1.1 else a.1.1.map (·.add (((1 : Int).toNat) * szOf Tryz.prog 3))) (a.1.2.1 - ((1 : Int).toNat)) (a.1.2.2 - ((1 : Int).toNat))), (sv m n o)]) D fun E F => ∃ (p : OA) (q r : Nat), E = .slice p q r ∧ e ((p, q, r), ()) F))))))))) (K (.bool true) b)) ((i, j, k), ()) x)

def qcN.ann : Ann := (.seq .l (.seq (.seq .l (.two (.seq .l .l) .l)) (.seq .l (.seq .l (.seq (.one (.loop [(8, .sl)] (.seq (.seq .l (.two .l .l)) (.one (.seq .l (.seq .l (.seq (.seq .l (.two .l .l)) (.seq (.seq .l (.two (.seq .l .l) .l)) (.seq .l .l))))))))) (.seq .l .l))))))

theorem qcN.con {c : List D.Ins} {p : OA} {q : Nat} {e j : Int} {r : Bool} {w : World} (J : M.qeZ c e j) (s : r = M.qcN c e j) (K : Row el84 w p c) (L : c.length ≤ q) :
    Cl 260 #[(sv p c.length q), (iv e), (iv j)] w (fun N k => N = (.bool r) ∧ Ext w k) := by
 have H := wp.qcN.math c e j J
 have a := Ext.refl w
 refine begK mixed Tryz.f260 ann (vc p c.length q e j) ?_
 unfold vc
 unfold wp.qcN at H
 apply brc H<;>intro h H
 ·cases s.trans H.symm
  exact ⟨rfl, a⟩
 obtain ⟨⟨O, P⟩, H⟩ := H
 refine qjR qo3 O P (fun Q av t R => ?_)
 have b := t.mono a.size
 have a := qa6 a R
 refine qaz el3 ([e] : List Int) (fun _ => by kernel_rfl) rfl (fun S aw T A => ?_)
 have b := b.ext A
 have U := T.mono a.size
 have a := qa6 a A
 obtain ⟨V, ⟨W, X⟩, B⟩ := H
 refine ⟨fun Y Z k => ∃ (g : List Int) (i : List Bool) (u : OA) (v : Nat), Z = ((u, g.length, v), ()) ∧ V Y (g, i, ()) ∧ Ext w k ∧ Own el3 k w.heap.size u v g ∧ Own el4 k w.heap.size (some (bx Q)) ((wrap .i64 ((c.length : Int) + 1)).toNat) i ∧ ((wrap .i64 ((c.length : Int) + 1)).toNat) = i.length, ⟨W, ([e] : List Int), (List.replicate ((wrap .i64 ((c.length : Int) + 1)).toNat) (default : Bool)), S, 1, rfl, X, a, U, b, (by first | rfl | assumption | omega | (simp; done) | (simp; omega) | (simp; assumption))⟩, ?_⟩
 rintro a0 _ ax ⟨g, i, u, v, rfl, C, a, f, b, ay⟩
 have H := B a0 _ C
 clear B C
 try dsimp only at H ⊢
 apply brc H<;>intro h H
 ·obtain ⟨⟨E, F⟩, H⟩ := H
  obtain ⟨a1, a2, a3⟩ := Row.at f.row E F
  refine ⟨E, F, a1, a2, _, (a3 0 _ rfl), ?_⟩
  obtain ⟨⟨a4, a5⟩, H⟩ := H
  refine and_assoc.1 ⟨⟨a4, a5⟩, ?_⟩
  rw [show (g.length - ((1 : Int).toNat)) = ((List.drop ((1 : Int).toNat) g)).length from by first | rfl | (simp; done) | (simp; omega)]
  have d := (f.drop (l := ((1 : Int).toNat)) (by first | omega | (simp; done) | (simp; omega)))
  obtain ⟨⟨G, x⟩, H⟩ := H
  obtain ⟨a6, a7, a8⟩ := Row.at b.row G x
  refine ⟨G, (by first | exact x | omega | (simp at x ⊢; omega)), a6, a7, _, (a8 0 _ rfl), ?_⟩
  apply brc H<;>intro h H
  ·obtain ⟨a9, aa, ab⟩ := H
   exact ⟨a9, aa, _, i, _, _, rfl, ab, a, d, b, (by first | rfl | assumption | omega | (simp; done) | (simp; omega) | (simp; assumption))⟩
  apply brc H<;>intro h H
  ·obtain ⟨ac, ad, ae⟩ := H
   exact ⟨ac, ad, _, i, _, _, rfl, ae, a, d, b, (by first | rfl | assumption | omega | (simp; done) | (simp; omega) | (simp; assumption))⟩
  apply brc H<;>intro h H
  ·cases s.trans H.symm
   exact ⟨rfl, a⟩
  obtain ⟨⟨y, m⟩, H⟩ := H
  obtain ⟨af, n, az⟩ := Row.at b.row y m
  refine ⟨y, (by first | exact m | omega | (simp at m ⊢; omega)), af, n, ?_⟩
  refine Own.stA b n y m 0 true (fun aA t z ag => ?_)
  have ah := f.chg z (((Own.qai f b (by decide))).left n)
  have d := d.chg z (((qhc (Own.qai f b (by decide)))).left n)
  have a := echg a z ag
  obtain ⟨ai, H⟩ := H
  obtain ⟨aj, ak, H⟩ := qaa H
  refine (qcr.con ai ak (K.ext a) L).mono ?_
  rintro _ aB ⟨al, am, rfl, P9, o⟩
  have b := t.ext o
  have f := ah.ext o
  have d := d.ext o
  have O9 := P9.mono a.size
  have a := qa6 a o
  refine ⟨al, aj.length, am, rfl, ?_⟩
  obtain ⟨an, H⟩ := H
  refine appO qgO d O9.row a.size an (fun ao ap aC P8 I => ?_)
  have b := b.app I (qhc (Own.qai b f (by decide)).symm).symm
  have a := eapp a I d
  have d := P8
  obtain ⟨aq, ar, au⟩ := H
  exact ⟨aq, ar, _, _, ao, ap, rfl, au, a, d, b, (by first | rfl | assumption | omega | (simp; done) | (simp; omega) | (simp; assumption))⟩
 cases s.trans H.symm
 exact ⟨rfl, a⟩
def qcw.vc (f : OA) (b g : Nat) (h : Int) (w : World) (K : VK) : Prop :=
  Run Tryz.prog (Instr.buildSlice 24 0 #[]) w fun u v => ∃ (c : OA) (d e : Nat), u = .slice c d e ∧ Cl 242 #[(sv f b g), (iv h)] v fun x i => (∃ (j : Bool), x = (.bool j) ∧ qa1 (!j) (K (sv c d e) i) (qdh (σ := (OA × Nat × Nat) × Int × Unit) (fun a k l => qa1 (decide (a.2.1 ≤ ((b : Nat) : Int))) (Cl 260 #[(sv f b g), (iv h), (iv a.2.1)] k fun y m => (∃ (n : Bool), y = (.bool n) ∧ qa1 n (Run Tryz.prog (Instr.buildSlice 24 1 #[(0, (iv a.2.1))]) m fun z A => ∃ (o : OA) (p q : Nat), z = .slice o p q ∧ Run Tryz.prog (Builtin.append_ #[24, 24] 24 #[(sv a.1.1 a.1.2.1 a.1.2.2), (sv o p q)]) A fun B C => ∃ (r : OA) (s t : Nat), B = .slice r s t ∧ l ((r, s, t), (wrap .i64 (a.2.1 + 1)), ()) C) (l ((a.1.1, a.1.2.1, a.1.2.2), (wrap .i64 (a.2.1 + 1)), ()) m))) (K (sv a.1.1 a.1.2.1 a.1.2.2) k)) ((c, d, e), 0, ()) i))

def qcw.ann : Ann := (.seq .l (.seq .l (.seq (.seq .l (.two (.seq .l .l) .l)) (.seq (.seq .l (.one (.loop [(5, .sl), (6, .int .i64)] (.seq (.seq .l (.two .l .l)) (.seq (.one (.seq .l (.two .l .l))) .l))))) (.seq .l .l)))))

theorem qcw.con {c : List D.Ins} {l : OA} {m : Nat} {d : Int} {r : List Int} {w : World} (A : M.qg8 c d) (n : r = M.qcw c d) (o : Row el84 w l c) (p : c.length ≤ m) :
    Cl 254 #[(sv l c.length m), (iv d)] w (fun B e => ∃ (q : OA) (s : Nat), B = (sv q r.length s) ∧ Own el3 e w.heap.size q s r ∧ Ext w e) := by
 have H := wp.qcw.math c d A
 have a := Ext.refl w
 refine begK mixed Tryz.f254 ann (vc l c.length m d) ?_
 unfold vc
 unfold wp.qcw at H
 refine qaz el3 ([] : List Int) (fun _ => by kernel_rfl) rfl (fun t a6 C E => ?_)
 have f := C.mono a.size
 have a := qa6 a E
 obtain ⟨F, H⟩ := H
 obtain ⟨G, I, H⟩ := qaa H
 refine (qaN.con F I (o.ext a) p).mono ?_
 rintro _ a7 ⟨rfl, u⟩
 have f := f.ext u
 have a := qa6 a u
 refine ⟨G, rfl, ?_⟩
 apply brc H<;>intro h H
 ·cases n.trans H.symm
  exact ⟨t, 0, (by first | rfl | (simp; done) | (simp; omega) | (simp [*]; done)), (by first | exact f | (simp only [bC, wC, List.length_set]; exact f)), a⟩
 obtain ⟨J, ⟨K, L⟩, v⟩ := H
 refine ⟨fun N O e => ∃ (g : List Int) (k : Int) (i : OA) (j : Nat), O = ((i, g.length, j), k, ()) ∧ J N (g, k, ()) ∧ Ext w e ∧ Own el3 e w.heap.size i j g, ⟨K, ([] : List Int), 0, t, 0, rfl, L, a, f⟩, ?_⟩
 rintro P _ a8 ⟨g, k, i, j, rfl, x, a, b⟩
 have H := v P _ x
 clear v x
 try dsimp only at H ⊢
 apply brc H<;>intro h H
 ·obtain ⟨Q, H⟩ := H
  obtain ⟨R, S, H⟩ := qaa H
  refine (qcN.con Q S (o.ext a) p).mono ?_
  rintro _ a9 ⟨rfl, y⟩
  have b := b.ext y
  have a := qa6 a y
  refine ⟨R, rfl, ?_⟩
  apply brc H<;>intro h H
  ·refine qaz el3 ([k] : List Int) (fun _ => by kernel_rfl) rfl (fun aa ab T z => ?_)
   have b := b.ext z
   have U := T.mono a.size
   have a := qa6 a z
   obtain ⟨V, H⟩ := H
   refine appO qgO b U.row a.size V (fun W X ac Y Z => ?_)
   have a := eapp a Z b
   have b := Y
   obtain ⟨a0, a1, a2⟩ := H
   exact ⟨a0, a1, _, _, W, X, rfl, a2, a, b⟩
  obtain ⟨a3, a4, a5⟩ := H
  exact ⟨a3, a4, g, _, i, j, rfl, a5, a, b⟩
 cases n.trans H.symm
 exact ⟨i, j, rfl, b, a⟩
def qdi.vc (k : OA) (l m : Nat) (e : OA) (d v : Nat) (w : World) (K : VK) : Prop :=
  qdh (σ := Int × Unit) (fun c g n => qa1 (decide (c.1 < ((d : Nat) : Int))) (qdh (σ := Bool × Int × Unit) (fun b a h => qa1 (decide (b.2.1 < ((d : Nat) : Int))) ((∃ f : Nat → Prop, qa1 b.1 ((idx c.1 d e fun o => ldIM f a (o.add ((c.1.toNat) * 1)) 0 fun p => (idx b.2.1 d e fun q => ldIM f a (q.add ((b.2.1.toNat) * 1)) 0 fun r => Cl 260 #[(sv k l m), (iv p), (iv r)] a.drew fun s i => (∃ (j : Bool), s = (.bool j) ∧ qab f a i ∧ h (j, (wrap .i64 (b.2.1 + 1)), ()) i)))) (h (false, (wrap .i64 (b.2.1 + 1)), ()) a.drew))) (qa1 b.1 ((idx c.1 d e fun t => ldI a ((t.add ((c.1.toNat) * 1)).add 0) fun u => K (iv u) a)) (n ((wrap .i64 (c.1 + 1)), ()) a))) (true, 0, ()) g) (K (iv (-1)) g)) (0, ()) w

def qdi.ann : Ann := (.seq .l (.seq (.seq .l (.one (.loop [(5, .int .i64)] (.seq (.seq .l (.two .l .l)) (.seq (.one (.seq .l (.seq (.seq .l (.one (.loop [(6, .bool), (7, .int .i64)] (.seq (.seq .l (.two .l .l)) (.seq (.one .l) .l))))) (.seq .l (.two (.seq .l .l) .l))))) .l))))) (.seq .l .l)))

theorem qdi.con {b : List D.Ins} {e f : OA} {g i : Nat} {c : List Int} {r : Int} {w : World} (I : M.qga b c) (s : r = M.qdi b c) (J : Row el84 w e b) (K : b.length ≤ g) (j : Row el3 w f c) (ag : c.length ≤ i) :
    Cl 252 #[(sv e b.length g), (sv f c.length i)] w (fun L d => L = (iv r) ∧ Ext w d) := by
 have H := wp.qdi.math b c I
 have a := Ext.refl w
 refine begK mixed Tryz.f252 ann (vc e b.length g f c.length i) ?_
 unfold vc
 unfold wp.qdi at H
 obtain ⟨N, ⟨O, P⟩, t⟩ := H
 refine ⟨fun k l d => ∃ (m : Int), l = (m, ()) ∧ N k (m, ()) ∧ Ext w d, ⟨O, 0, rfl, P, a⟩, ?_⟩
 rintro Q _ ah ⟨m, rfl, u, a⟩
 have H := t Q _ u
 clear t u
 try dsimp only at H ⊢
 apply brc H<;>intro h H
 ·obtain ⟨R, ⟨S, T⟩, v⟩ := H
  refine ⟨fun k l d => ∃ (n : Bool) (o : Int), l = (n, o, ()) ∧ R k (n, o, ()) ∧ Ext w d, ⟨S, true, 0, rfl, T, a⟩, ?_⟩
  rintro U _ V ⟨n, o, rfl, x, a⟩
  have H := v U _ x
  clear v x
  try dsimp only at H ⊢
  apply brc H<;>intro h H
  ·refine ⟨(fun _ => False), ?_⟩
   apply brc H<;>intro h H
   ·obtain ⟨⟨y, z⟩, H⟩ := H
    obtain ⟨W, X, Y⟩ := Row.at (j.ext a) y z
    refine ⟨y, z, W, X, _, ⟨(fun p => p), (Y 0 _ rfl)⟩, ?_⟩
    obtain ⟨⟨A, B⟩, H⟩ := H
    obtain ⟨Z, a0, a1⟩ := Row.at (j.ext a) A B
    refine ⟨A, B, Z, a0, _, ⟨(fun p => p), (a1 0 _ rfl)⟩, ?_⟩
    have a := qa6 a (Ext.drew _)
    have q := (Chg.refl (fun _ => False) V).then (Ext.drew _)
    obtain ⟨a2, H⟩ := H
    obtain ⟨C, a3, H⟩ := qaa H
    refine (qcN.con a2 a3 (J.ext a) K).mono ?_
    rintro _ ai ⟨rfl, E⟩
    have a := qa6 a E
    have q := q.then E
    refine ⟨C, rfl, qaw q, ?_⟩
    obtain ⟨a4, a5, a6⟩ := H
    exact ⟨a4, a5, C, _, rfl, a6, a⟩
   have a := qa6 a (Ext.drew _)
   obtain ⟨a7, a8, a9⟩ := H
   exact ⟨a7, a8, _, _, rfl, a9, a⟩
  apply brc H<;>intro h H
  ·obtain ⟨⟨F, G⟩, H⟩ := H
   obtain ⟨aa, ab, ac⟩ := Row.at (j.ext a) F G
   refine ⟨F, G, aa, ab, _, (ac 0 _ rfl), ?_⟩
   cases s.trans H.symm
   exact ⟨rfl, a⟩
  obtain ⟨ad, ae, af⟩ := H
  exact ⟨ad, ae, _, rfl, af, a⟩
 cases s.trans H.symm
 exact ⟨rfl, a⟩
def qcj.vc (a : OA) (b c : Nat) (d : Int) (w : World) (K : VK) : Prop :=
  Cl 254 #[(sv a b c), (iv d)] w fun l m => (∃ (e : OA) (f g : Nat), l = (sv e f g) ∧ Cl 253 #[(sv e f g), (iv d)] m fun n o => (∃ (h : OA) (i j : Nat), n = (sv h i j) ∧ Cl 252 #[(sv a b c), (sv h i j)] o fun p q => (∃ (k : Int), p = (iv k) ∧ K (iv k) q)))

def qcj.ann : Ann := (.seq .l (.seq .l .l))

theorem qcj.con {b : List D.Ins} {d : OA} {e : Nat} {c r : Int} {w : World} (j : M.qfv b c) (k : r = M.qcj b c) (f : Row el84 w d b) (g : b.length ≤ e) :
    Cl 243 #[(sv d b.length e), (iv c)] w (fun l m => l = (iv r) ∧ Ext w m) := by
 have H := wp.qcj.math b c j
 have a := Ext.refl w
 refine begK mixed Tryz.f243 ann (vc d b.length e c) ?_
 unfold vc
 unfold wp.qcj at H
 obtain ⟨n, H⟩ := H
 obtain ⟨o, p, H⟩ := qaa H
 refine (qcw.con n p (f.ext a) g).mono ?_
 rintro _ J ⟨q, s, rfl, t, u⟩
 have h := t.mono a.size
 have a := qa6 a u
 refine ⟨q, o.length, s, rfl, ?_⟩
 obtain ⟨v, H⟩ := H
 obtain ⟨x, y, H⟩ := qaa H
 refine (qd3.con v y h.row h.le).mono ?_
 rintro _ K ⟨z, A, rfl, B, C⟩
 have i := B.mono a.size
 have a := qa6 a C
 refine ⟨z, x.length, A, rfl, ?_⟩
 obtain ⟨E, H⟩ := H
 obtain ⟨F, G, H⟩ := qaa H
 refine (qdi.con E G (f.ext a) g i.row i.le).mono ?_
 rintro _ L ⟨rfl, I⟩
 have a := qa6 a I
 refine ⟨F, rfl, ?_⟩
 cases k.trans H.symm
 exact ⟨rfl, a⟩
def qcD.vc (b : OA) (a d : Nat) (c : Int) (w : World) (K : VK) : Prop :=
  Cl 242 #[(sv b a d), (iv (wrap .i64 (c + 1)))] w fun j e => (∃ (f : Bool), j = (.bool f) ∧ qa1 (!f) (K (iv ((a : Nat) : Int)) e) ((idx c a b fun k => ldI e (((k.add ((c.toNat) * 4)).add 2).add 0) fun l => Cl 242 #[(sv b a d), (iv l)] e fun m g => (∃ (h : Bool), m = (.bool h) ∧ qa1 (!h) (K (iv ((a : Nat) : Int)) g) (Cl 243 #[(sv b a d), (iv c)] g fun n o => (∃ (i : Int), n = (iv i) ∧ K (iv i) o))))))

def qcD.ann : Ann := (.seq .l (.seq (.seq .l (.two (.seq .l .l) .l)) (.seq .l .l)))

theorem qcD.con {b : List D.Ins} {e : OA} {f : Nat} {c r : Int} {w : World} (l : M.qgx b c) (g : r = M.qcD b c) (d : Row el84 w e b) (i : b.length ≤ f) :
    Cl 222 #[(sv e b.length f), (iv c)] w (fun m n => m = (iv r) ∧ Ext w n) := by
 have H := wp.qcD.math b c l
 have a := Ext.refl w
 refine begK mixed Tryz.f222 ann (vc e b.length f c) ?_
 unfold vc
 unfold wp.qcD at H
 obtain ⟨o, H⟩ := H
 obtain ⟨p, q, H⟩ := qaa H
 refine (qaN.con o q (d.ext a) i).mono ?_
 rintro _ G ⟨rfl, s⟩
 have a := qa6 a s
 refine ⟨p, rfl, ?_⟩
 apply brc H<;>intro h H
 ·cases g.trans H.symm
  exact ⟨rfl, a⟩
 obtain ⟨⟨j, k⟩, H⟩ := H
 obtain ⟨t, u, v⟩ := Row.at (d.ext a) j k
 refine ⟨j, k, t, u, _, (v 2 _ rfl), ?_⟩
 obtain ⟨x, H⟩ := H
 obtain ⟨y, z, H⟩ := qaa H
 refine (qaN.con x z (d.ext a) i).mono ?_
 rintro _ I ⟨rfl, A⟩
 have a := qa6 a A
 refine ⟨y, rfl, ?_⟩
 apply brc H<;>intro h H
 ·cases g.trans H.symm
  exact ⟨rfl, a⟩
 obtain ⟨B, H⟩ := H
 obtain ⟨C, E, H⟩ := qaa H
 refine (qcj.con B E (d.ext a) i).mono ?_
 rintro _ J ⟨rfl, F⟩
 have a := qa6 a F
 refine ⟨C, rfl, ?_⟩
 cases g.trans H.symm
 exact ⟨rfl, a⟩
def cmp_isNaN_int.vc (a : Int) (w : World) (K : VK) : Prop :=
  K (.bool (a != a)) w

def cmp_isNaN_int.ann : Ann := (.seq .l (.seq .l .l))

theorem cmp_isNaN_int.con {a : Int} {r : Bool} {w : World} (b : r = M.cmp_isNaN_int a)  :
    Cl 158 #[(iv a)] w (fun c d => c = (.bool r) ∧ Ext w d) := by
 have H := wp.cmp_isNaN_int.math a
 have e := Ext.refl w
 refine begK mixed Tryz.f158 ann (vc a) ?_
 unfold vc
 unfold wp.cmp_isNaN_int at H
 cases b.trans H.symm
 exact ⟨rfl, e⟩
def cmp_Less_int.vc (a b : Int) (w : World) (K : VK) : Prop :=
  Cl 158 #[(iv a)] w fun g c => (∃ (d : Bool), g = (.bool d) ∧ qa1 d (Cl 158 #[(iv b)] c fun h e => (∃ (f : Bool), h = (.bool f) ∧ qa1 (!f) (K (.bool true) e) (K (.bool (decide (a < b))) e))) (K (.bool (decide (a < b))) c))

def cmp_Less_int.ann : Ann := (.seq .l (.seq .l .l))

theorem cmp_Less_int.con {b c : Int} {r : Bool} {w : World} (d : r = M.cmp_Less_int b c)  :
    Cl 235 #[(iv b), (iv c)] w (fun e f => e = (.bool r) ∧ Ext w f) := by
 have H := wp.cmp_Less_int.math b c
 refine begK mixed Tryz.f235 ann (vc b c) ?_
 unfold vc
 unfold wp.cmp_Less_int at H
 obtain ⟨g, i, H⟩ := qaa H
 refine (cmp_isNaN_int.con i ).mono ?_
 rintro _ n ⟨rfl, j⟩
 have a := qa6 (Ext.refl w) j
 refine ⟨g, rfl, ?_⟩
 apply brc H<;>intro h H
 ·obtain ⟨k, l, H⟩ := qaa H
  refine (cmp_isNaN_int.con l ).mono ?_
  rintro _ o ⟨rfl, m⟩
  have a := qa6 a m
  refine ⟨k, rfl, ?_⟩
  apply brc H<;>intro h H
  ·cases d.trans H.symm
   exact ⟨rfl, a⟩
  cases d.trans H.symm
  exact ⟨rfl, a⟩
 cases d.trans H.symm
 exact ⟨rfl, a⟩
def qat.vc (b : OA) (c O : Nat) (h C : Int) (w : World) (K : VK) : Prop :=
  qdh (σ := Int × Unit) (fun e i g => qa1 (decide (e.1 < C)) (qdh (σ := Int × Unit) (fun a d j => qfo (σ := Unit) (fun k => qa1 (decide (a.1 > h)) ((idx a.1 c b fun l => (idx (wrap .i64 (a.1 - 1)) c b fun m => ((∃ (n : Int), d.drew.cell? ((l.add ((a.1.toNat) * 1)).add 0) = some (iv n) ∧ ((∃ (o : Int), d.drew.cell? ((m.add (((wrap .i64 (a.1 - 1)).toNat) * 1)).add 0) = some (iv o) ∧ ((Cl 235 #[(iv n), (iv o)] d.drew fun D p => (∃ (q : Bool), D = (.bool q) ∧ qa1 q (k () p) (g ((wrap .i64 (e.1 + 1)), ()) p))) ∧ True)) ∧ True)) ∧ (∃ (r : Int), d.drew.cell? ((m.add (((wrap .i64 (a.1 - 1)).toNat) * 1)).add 0) = some (iv r) ∧ ((∃ (s : Int), d.drew.cell? ((l.add ((a.1.toNat) * 1)).add 0) = some (iv s) ∧ ((Cl 235 #[(iv s), (iv r)] d.drew fun E t => (∃ (u : Bool), E = (.bool u) ∧ qa1 u (k () t) (g ((wrap .i64 (e.1 + 1)), ()) t))) ∧ True)) ∧ True)) ∧ True)))) (((((((g ((wrap .i64 (e.1 + 1)), ()) d.drew) ∧ True)) ∧ True)) ∧ (((((g ((wrap .i64 (e.1 + 1)), ()) d.drew) ∧ True)) ∧ True)) ∧ True))) fun P f => (idx (wrap .i64 (a.1 - 1)) c b fun v => (idx a.1 c b fun x => ((∃ (y : Int), f.drew.cell? ((v.add (((wrap .i64 (a.1 - 1)).toNat) * 1)).add 0) = some (iv y) ∧ ((∃ (z : Int), f.drew.cell? ((x.add ((a.1.toNat) * 1)).add 0) = some (iv z) ∧ (idx a.1 c b fun F => ((qa5 (F.add ((a.1.toNat) * 1)) [(iv y)] 0 f.drew fun G => (idx (wrap .i64 (a.1 - 1)) c b fun H => ((qa5 (H.add (((wrap .i64 (a.1 - 1)).toNat) * 1)) [(iv z)] 0 G fun I => j ((wrap .i64 (a.1 - 1)), ()) I) ∧ True))) ∧ True))) ∧ True)) ∧ (∃ (A : Int), f.drew.cell? ((x.add ((a.1.toNat) * 1)).add 0) = some (iv A) ∧ ((∃ (B : Int), f.drew.cell? ((v.add (((wrap .i64 (a.1 - 1)).toNat) * 1)).add 0) = some (iv B) ∧ (idx a.1 c b fun J => ((qa5 (J.add ((a.1.toNat) * 1)) [(iv B)] 0 f.drew fun L => (idx (wrap .i64 (a.1 - 1)) c b fun M => ((qa5 (M.add (((wrap .i64 (a.1 - 1)).toNat) * 1)) [(iv A)] 0 L fun N => j ((wrap .i64 (a.1 - 1)), ()) N) ∧ True))) ∧ True))) ∧ True)) ∧ True)))) (e.1, ()) i) (K (.tuple #[]) i)) ((wrap .i64 (h + 1)), ()) w

def qat.ann : Ann := (.seq .l (.one (.loop [(6, .int .i64)] (.seq (.seq .l (.two .l .l)) (.seq (.one (.seq .l (.one (.loop [(7, .int .i64)] (.cut [] (.seq .each (.two .l .l)) (.seq (.one .each) .l)))))) .l)))))

theorem qat.con {e : List Int} {c : OA} {g : Nat} {j k : Int} {r : (List Int)} {w : World} (Y : M.qdm e j k) (Z : r = M.qat e j k) (a : Own el3 w 0 c g e) :
    Cl 229 #[(sv c e.length g), (iv j), (iv k)] w (fun v_ d => v_ = (.tuple #[]) ∧ Own el3 d 0 c g r ∧ r.length = e.length ∧ Chg (InB c) w d) := by
 have H := wp.qat.math e j k Y
 have b := Chg.refl (InB c) w
 refine begK mixed Tryz.f229 ann (vc c e.length g j k) ?_
 unfold vc
 unfold wp.qat at H
 obtain ⟨a0, ⟨a1, a2⟩, J⟩ := H
 refine ⟨fun t l d => ∃ (n : Int) (m : List Int), l = (n, ()) ∧ a0 t (n, m, ()) ∧ Chg (InB c) w d ∧ Own el3 d 0 c g m ∧ e.length = m.length, ⟨a1, (wrap .i64 (j + 1)), e, rfl, a2, b, a, (by first | rfl | assumption | omega | (simp; done) | (simp; omega) | (simp; assumption))⟩, ?_⟩
 rintro a3 _ aP ⟨n, m, rfl, K, b, a, a4⟩
 have H := J a3 _ K
 clear J K
 try dsimp only at H ⊢
 apply brc H<;>intro h H
 ·obtain ⟨a5, ⟨a6, a7⟩, L⟩ := H
  refine ⟨fun t l d => ∃ (i : Int) (f : List Int), l = (i, ()) ∧ a5 t (i, f, ()) ∧ Chg (InB c) w d ∧ Own el3 d 0 c g f ∧ e.length = f.length, ⟨a6, n, m, rfl, a7, b, a, (by first | rfl | assumption | omega | (simp; done) | (simp; omega) | (simp; assumption))⟩, ?_⟩
  rintro a8 _ aQ ⟨i, f, rfl, N, b, a, aR⟩
  have H := L a8 _ N
  clear L N
  try dsimp only at H ⊢
  obtain ⟨a9, aa, H⟩ := qd9 H
  refine ⟨fun l d => l = (()) ∧ a9 (()) ∧ Chg (InB c) w d ∧ Own el3 d 0 c g f, ?_, ?_⟩
  ·have a := a.ext (Ext.drew _)
   have b := b.then (Ext.drew _)
   apply brc H<;>intro h H
   ·obtain ⟨⟨O, u⟩, H⟩ := H
    obtain ⟨ab, ac, P⟩ := Row.at a.row O u
    refine ⟨O, (by first | exact u | omega | (simp at u ⊢; omega)), ab, ac, ?_⟩
    obtain ⟨⟨Q, v⟩, H⟩ := H
    obtain ⟨ad, ae, R⟩ := Row.at a.row Q v
    refine ⟨Q, (by first | exact v | omega | (simp at v ⊢; omega)), ad, ae, ?_⟩
    refine And.intro ?_ ?_
    ·have H := H.1
     refine ⟨_, (P 0 _ rfl), ?_⟩
     refine qcn ?_
     refine ⟨_, (R 0 _ rfl), ?_⟩
     refine qcn ?_
     obtain ⟨af, ag, H⟩ := qaa H
     refine (cmp_Less_int.con ag ).mono ?_
     rintro _ aS ⟨rfl, S⟩
     have a := a.ext S
     have b := b.then S
     refine ⟨af, rfl, ?_⟩
     apply brc H<;>intro h H
     ·exact ⟨rfl, H, b, a⟩
     obtain ⟨ah, ai, aj⟩ := H
     exact ⟨ah, ai, _, _, rfl, aj, b, a, (by first | rfl | assumption | omega | (simp; done) | (simp; omega) | (simp; assumption))⟩
    refine And.intro ?_ ?_
    ·have H := H.2.1
     refine ⟨_, (R 0 _ rfl), ?_⟩
     refine qcn ?_
     refine ⟨_, (P 0 _ rfl), ?_⟩
     refine qcn ?_
     obtain ⟨ak, al, H⟩ := qaa H
     refine (cmp_Less_int.con al ).mono ?_
     rintro _ aT ⟨rfl, T⟩
     have a := a.ext T
     have b := b.then T
     refine ⟨ak, rfl, ?_⟩
     apply brc H<;>intro h H
     ·exact ⟨rfl, H, b, a⟩
     obtain ⟨am, an, ao⟩ := H
     exact ⟨am, an, _, _, rfl, ao, b, a, (by first | rfl | assumption | omega | (simp; done) | (simp; omega) | (simp; assumption))⟩
    exact trivial
   refine And.intro ?_ ?_
   ·have H := H.1
    refine qcn ?_
    refine qcn ?_
    obtain ⟨ap, aq, ar⟩ := H
    exact ⟨ap, aq, _, _, rfl, ar, b, a, (by first | rfl | assumption | omega | (simp; done) | (simp; omega) | (simp; assumption))⟩
   refine And.intro ?_ ?_
   ·have H := H.2.1
    refine qcn ?_
    refine qcn ?_
    obtain ⟨au, av, aw⟩ := H
    exact ⟨au, av, _, _, rfl, aw, b, a, (by first | rfl | assumption | omega | (simp; done) | (simp; omega) | (simp; assumption))⟩
   exact trivial
  rintro _ aU ⟨rfl, H, b, a⟩
  have H := aa _ H
  try dsimp only at H ⊢
  have a := a.ext (Ext.drew _)
  have b := b.then (Ext.drew _)
  obtain ⟨⟨U, x⟩, H⟩ := H
  obtain ⟨ax, ay, V⟩ := Row.at a.row U x
  refine ⟨U, (by first | exact x | omega | (simp at x ⊢; omega)), ax, ay, ?_⟩
  obtain ⟨⟨W, y⟩, H⟩ := H
  obtain ⟨az, aA, X⟩ := Row.at a.row W y
  refine ⟨W, (by first | exact y | omega | (simp at y ⊢; omega)), az, aA, ?_⟩
  refine And.intro ?_ ?_
  ·have H := H.1
   refine ⟨_, (V 0 _ rfl), ?_⟩
   refine qcn ?_
   refine ⟨_, (X 0 _ rfl), ?_⟩
   obtain ⟨⟨z, o⟩, H⟩ := H
   obtain ⟨aB, A, aV⟩ := Row.at a.row z o
   refine ⟨z, (by first | exact o | omega | (simp at o ⊢; omega)), aB, A, ?_⟩
   refine qcn ?_
   refine Own.stA a A z o 0 (rd f (wrap .i64 (i - 1))) (fun aW B aC aX => ?_)
   have a := B
   obtain ⟨⟨C, p⟩, H⟩ := H
   obtain ⟨aD, D, aY⟩ := Row.at a.row C p
   refine ⟨C, (by first | exact p | omega | (simp at p ⊢; omega)), aD, D, ?_⟩
   refine qcn ?_
   refine Own.stA a D C p 0 (rd f i) (fun aZ a aE b0 => ?_)
   have b := (b.chgb aC (Or.inr ⟨_, A, rfl⟩)).chgb aE (Or.inr ⟨_, D, rfl⟩)
   obtain ⟨aF, aG, aH⟩ := H
   exact ⟨aF, aG, _, _, rfl, aH, b, a, (by first | rfl | assumption | omega | (simp; done) | (simp; omega) | (simp; assumption))⟩
  refine And.intro ?_ ?_
  ·have H := H.2.1
   refine ⟨_, (X 0 _ rfl), ?_⟩
   refine qcn ?_
   refine ⟨_, (V 0 _ rfl), ?_⟩
   obtain ⟨⟨E, q⟩, H⟩ := H
   obtain ⟨aI, F, b1⟩ := Row.at a.row E q
   refine ⟨E, (by first | exact q | omega | (simp at q ⊢; omega)), aI, F, ?_⟩
   refine qcn ?_
   refine Own.stA a F E q 0 (rd f (wrap .i64 (i - 1))) (fun b2 B aJ b3 => ?_)
   have a := B
   obtain ⟨⟨G, s⟩, H⟩ := H
   obtain ⟨aK, I, b4⟩ := Row.at a.row G s
   refine ⟨G, (by first | exact s | omega | (simp at s ⊢; omega)), aK, I, ?_⟩
   refine qcn ?_
   refine Own.stA a I G s 0 (rd f i) (fun b5 a aL b6 => ?_)
   have b := (b.chgb aJ (Or.inr ⟨_, F, rfl⟩)).chgb aL (Or.inr ⟨_, I, rfl⟩)
   obtain ⟨aM, aN, aO⟩ := H
   exact ⟨aM, aN, _, _, rfl, aO, b, a, (by first | rfl | assumption | omega | (simp; done) | (simp; omega) | (simp; assumption))⟩
  exact trivial
 cases Z.trans H.symm
 exact ⟨rfl, a, (by first | (simp only [bC, wC, List.length_set]; done) | (simp only [bC, wC, List.length_set, ← a4]; done) | (simp; done) | (simp; omega) | omega), b⟩
def qbK.vc (c : Int) (w : World) (K : VK) : Prop :=
  qfo (σ := Int × Int × Unit) (fun e => qa1 (decide (c ≥ 4294967296)) (((0 : Int) ≤ 32 ∧ e ((Int.fdiv c (2 ^ (min ((32 : Int).toNat) (IntKind.bits .u64)))), 32, ()) w)) (e (c, 0, ()) w)) fun a f => qfo (σ := Int × Int × Unit) (fun g => qa1 (decide (a.1 ≥ 65536)) (((0 : Int) ≤ 16 ∧ g ((Int.fdiv a.1 (2 ^ (min ((16 : Int).toNat) (IntKind.bits .u64)))), (wrap .i64 (a.2.1 + 16)), ()) f)) (g (a.1, a.2.1, ()) f)) fun b h => qfo (σ := Int × Int × Unit) (fun i => qa1 (decide (b.1 ≥ 256)) (((0 : Int) ≤ 8 ∧ i ((Int.fdiv b.1 (2 ^ (min ((8 : Int).toNat) (IntKind.bits .u64)))), (wrap .i64 (b.2.1 + 8)), ()) h)) (i (b.1, b.2.1, ()) h)) fun d k => ((0 : Int) ≤ IntKind.wrap .u8 d.1 ∧ ∃ j : UInt8, ((⟨#[0, 1, 2, 2, 3, 3, 3, 3, 4, 4, 4, 4, 4, 4, 4, 4, 5, 5, 5, 5, 5, 5, 5, 5, 5, 5, 5, 5, 5, 5, 5, 5, 6, 6, 6, 6, 6, 6, 6, 6, 6, 6, 6, 6, 6, 6, 6, 6, 6, 6, 6, 6, 6, 6, 6, 6, 6, 6, 6, 6, 6, 6, 6, 6, 7, 7, 7, 7, 7, 7, 7, 7, 7, 7, 7, 7, 7, 7, 7, 7, 7, 7, 7, 7, 7, 7, 7, 7, 7, 7, 7, 7, 7, 7, 7, 7, 7, 7, 7, 7, 7, 7, 7, 7, 7, 7, 7, 7, 7, 7, 7, 7, 7, 7, 7, 7, 7, 7, 7, 7, 7, 7, 7, 7, 7, 7, 7, 7, 8, 8, 8, 8, 8, 8, 8, 8, 8, 8, 8, 8, 8, 8, 8, 8, 8, 8, 8, 8, 8, 8, 8, 8, 8, 8, 8, 8, 8, 8, 8, 8, 8, 8, 8, 8, 8, 8, 8, 8, 8, 8, 8, 8, 8, 8, 8, 8, 8, 8, 8, 8, 8, 8, 8, 8, 8, 8, 8, 8, 8, 8, 8, 8, 8, 8, 8, 8, 8, 8, 8, 8, 8, 8, 8, 8, 8, 8, 8, 8, 8, 8, 8, 8, 8, 8, 8, 8, 8, 8, 8, 8, 8, 8, 8, 8, 8, 8, 8, 8, 8, 8, 8, 8, 8, 8, 8, 8, 8, 8, 8, 8, 8, 8, 8, 8, 8, 8, 8, 8, 8, 8, 8, 8, 8, 8, 8, 8]⟩) : ByteArray)[((IntKind.wrap .u8 d.1).toNat)]? = some j ∧ K (iv (wrap .i64 (d.2.1 + (wrap .i64 ((j.toNat : Nat) : Int))))) k)

def qbK.ann : Ann := (.seq .l (.cut [(0, .int .u64), (2, .int .i64)] (.seq .l (.two (.seq .l .l) .l)) (.cut [(0, .int .u64), (2, .int .i64)] (.seq .l (.two (.seq .l .l) .l)) (.cut [(0, .int .u64), (2, .int .i64)] (.seq .l (.two (.seq .l .l) .l)) (.seq .l .l)))))

theorem qbK.con {c r : Int} {w : World} (m : M.qfn c) (n : r = M.qbK c)  :
    Cl 196 #[(.int .u64 c)] w (fun o b => o = (iv r) ∧ Ext w b) := by
 have H := wp.qbK.math c m
 have a := Ext.refl w
 refine begK mixed Tryz.f196 ann (vc c) ?_
 unfold vc
 unfold wp.qbK at H
 obtain ⟨p, q, H⟩ := qd9 H
 refine ⟨fun d b => ∃ (e f : Int), d = (e, f, ()) ∧ p (e, f, ()) ∧ Ext w b, ?_, ?_⟩
 ·apply brc H<;>intro h H
  ·refine ⟨by decide, ?_⟩
   exact ⟨_, 32, rfl, H, a⟩
  exact ⟨c, 0, rfl, H, a⟩
 rintro _ B ⟨e, f, rfl, H, a⟩
 have H := q _ H
 try dsimp only at H ⊢
 obtain ⟨s, t, H⟩ := qd9 H
 refine ⟨fun d b => ∃ (g i : Int), d = (g, i, ()) ∧ s (g, i, ()) ∧ Ext w b, ?_, ?_⟩
 ·apply brc H<;>intro h H
  ·refine ⟨by decide, ?_⟩
   exact ⟨_, _, rfl, H, a⟩
  exact ⟨e, f, rfl, H, a⟩
 rintro _ C ⟨g, i, rfl, H, a⟩
 have H := t _ H
 try dsimp only at H ⊢
 obtain ⟨u, v, H⟩ := qd9 H
 refine ⟨fun d b => ∃ (j k : Int), d = (j, k, ()) ∧ u (j, k, ()) ∧ Ext w b, ?_, ?_⟩
 ·apply brc H<;>intro h H
  ·refine ⟨by decide, ?_⟩
   exact ⟨_, _, rfl, H, a⟩
  exact ⟨g, i, rfl, H, a⟩
 rintro _ D ⟨j, k, rfl, H, a⟩
 have H := v _ H
 try dsimp only at H ⊢
 obtain ⟨⟨l, x⟩, H⟩ := H
 obtain ⟨y, z, A⟩ := qoU l x
 refine ⟨l, y, z, ?_⟩
 rw [A]
 cases n.trans H.symm
 exact ⟨rfl, a⟩
def qcP.vc (b : Int) (w : World) (K : VK) : Prop :=
  Cl 196 #[(.int .u64 b)] w fun c d => (∃ (a : Int), c = (iv a) ∧ K (iv a) d)

def qcP.ann : Ann := (.seq .l (.seq (.two (.seq .l .l) .l) (.seq .l .l)))

theorem qcP.con {a r : Int} {w : World} (b : M.qf0 a) (c : r = M.qcP a)  :
    Cl 157 #[(.int .u64 a)] w (fun d e => d = (iv r) ∧ Ext w e) := by
 have H := wp.qcP.math a b
 refine begK mixed Tryz.f157 ann (vc a) ?_
 unfold vc
 unfold wp.qcP at H
 obtain ⟨f, H⟩ := H
 obtain ⟨g, h, H⟩ := qaa H
 refine (qbK.con f h ).mono ?_
 rintro _ k ⟨rfl, i⟩
 have j := qa6 (Ext.refl w) i
 refine ⟨g, rfl, ?_⟩
 cases c.trans H.symm
 exact ⟨rfl, j⟩
def qaQ.vc (b : OA) (c d : Nat) (C D E : Int) (w : World) (K : VK) : Prop :=
  qdh (σ := Int × Int × Int × Bool × Bool × Unit) (fun a i o => qa1 (decide ((wrap .i64 (a.2.1 - a.1)) ≤ 12)) (Cl 229 #[(sv b c d), (iv a.1), (iv a.2.1)] i fun F G => (F = (.tuple #[]) ∧ K (.tuple #[]) G)) (qa1 (a.2.2.1 == 0) (Cl 230 #[(sv b c d), (iv a.1), (iv a.2.1)] i fun H I => (H = (.tuple #[]) ∧ K (.tuple #[]) I)) (qfo (σ := Int × Unit) (fun q => qa1 (!a.2.2.2.1) (Cl 231 #[(sv b c d), (iv a.1), (iv a.2.1)] i fun J L => (J = (.tuple #[]) ∧ q ((wrap .i64 (a.2.2.1 - 1)), ()) L)) (q (a.2.2.1, ()) i)) fun f M => Cl 232 #[(sv b c d), (iv a.1), (iv a.2.1)] M fun N r => (∃ O : Value, (∃ (j : Int), O = (iv j) ∧ ∃ P : Value, (∃ (k : Int), P = (iv k) ∧ N = (.tuple #[(iv j), (iv k)]) ∧ qfo (σ := Int × Int × Unit) (fun s => qa1 (k == 2) (Cl 233 #[(sv b c d), (iv a.1), (iv a.2.1)] r fun Q R => (Q = (.tuple #[]) ∧ s ((wrap .i64 ((wrap .i64 (a.2.1 - 1)) - (wrap .i64 (j - a.1)))), 1, ()) R)) (s (j, k, ()) r)) fun g l => qfo (σ := Unit) (fun m => qa1 a.2.2.2.1 (qa1 a.2.2.2.2.1 (qa1 (g.2.1 == 1) (Cl 234 #[(sv b c d), (iv a.1), (iv a.2.1)] l fun S t => (∃ (u : Bool), S = (.bool u) ∧ qa1 u (K (.tuple #[]) t) (m () t))) (m () l)) (m () l)) (m () l)) fun a8 h => qfo (σ := Bool × Unit) (fun v => (∃ p : Nat → Prop, qa1 (decide (a.1 > 0)) ((idx (wrap .i64 (a.1 - 1)) c b fun T => ldIM p h (T.add (((wrap .i64 (a.1 - 1)).toNat) * 1)) 0 fun U => (idx g.1 c b fun V => ldIM p h (V.add ((g.1.toNat) * 1)) 0 fun W => Cl 235 #[(iv U), (iv W)] h.drew fun X x => (∃ (y : Bool), X = (.bool y) ∧ qab p h x ∧ v ((!y), ()) x)))) (v (false, ()) h.drew))) fun Y z => qa1 Y.1 (Cl 236 #[(sv b c d), (iv a.1), (iv a.2.1), (iv g.1)] z fun Z a0 => (∃ (A : Int), Z = (iv A) ∧ o (A, a.2.1, f.1, a.2.2.2.1, a.2.2.2.2.1, ()) a0)) (Cl 237 #[(sv b c d), (iv a.1), (iv a.2.1), (iv g.1)] z fun a1 B => (∃ a2 : Value, (∃ (e : Int), a2 = (iv e) ∧ ∃ a3 : Value, (∃ (n : Bool), a3 = (.bool n) ∧ a1 = (.tuple #[(iv e), (.bool n)]) ∧ ((8 : Int) ≠ 0 ∧ qa1 (decide ((wrap .i64 (e - a.1)) < (wrap .i64 (a.2.1 - e)))) (Cl 209 #[(sv b c d), (iv a.1), (iv e), (iv f.1)] B fun a4 a5 => (a4 = (.tuple #[]) ∧ o ((wrap .i64 (e + 1)), a.2.1, f.1, (decide ((wrap .i64 (e - a.1)) ≥ (wrap .i64 (Int.tdiv (wrap .i64 (a.2.1 - a.1)) 8)))), n, ()) a5)) (Cl 209 #[(sv b c d), (iv (wrap .i64 (e + 1))), (iv a.2.1), (iv f.1)] B fun a6 a7 => (a6 = (.tuple #[]) ∧ o (a.1, e, f.1, (decide ((wrap .i64 (a.2.1 - e)) ≥ (wrap .i64 (Int.tdiv (wrap .i64 (a.2.1 - a.1)) 8)))), n, ()) a7))))))))))))) (C, D, E, true, true, ()) w

def qaQ.ann : Ann := (.seq .l (.seq .l (.one (.loop [(1, .int .i64), (2, .int .i64), (3, .int .i64), (8, .bool), (9, .bool)] (.one (.seq .l (.seq (.seq .l (.two (.seq .l .l) .l)) (.seq (.seq .l (.two (.seq .l .l) .l)) (.cut [(3, .int .i64)] (.seq .l (.two (.seq .l .l) .l)) (.seq .l (.cut [(11, .int .i64), (12, .int .i64)] (.seq .l (.two (.seq .l (.seq .l .l)) .l)) (.cut [] (.seq .l (.two (.seq .l (.two .l .l)) .l)) (.seq (.cut [(87, .bool)] .l (.two (.seq .l (.seq .l .l)) .l)) (.seq .l (.seq .l (.seq .l (.seq .l (.seq .l (.two (.seq .l (.seq .l .l)) (.seq .l (.seq .l .l)))))))))))))))))))))

theorem qaQ.con {a : List Int} {b : OA} {f : Nat} {c d e : Int} {r : (List Int)} {w : World} (t : M.qdY a c d e) (u : r = M.qaQ a c d e) (i : Own el3 w 0 b f a) :
    Cl 209 #[(sv b a.length f), (iv c), (iv d), (iv e)] w (fun v j => v = (.tuple #[]) ∧ Own el3 j 0 b f r ∧ r.length = a.length ∧ Chg (InB b) w j) := by
 have H := wp.qaQ.math a c d e t
 have k := Chg.refl (InB b) w
 refine begK mixed Tryz.f209 ann (vc b a.length f c d e) ?_
 unfold vc
 unfold wp.qaQ at H
 obtain ⟨x, ⟨y, z⟩, q⟩ := H
 refine ⟨fun A B j => ∃ (l m n : Int) (o p : Bool), B = (l, m, n, o, p, ()) ∧ x A (l, m, n, o, p, ()) ∧ Chg (InB b) w j ∧ Own el3 j 0 b f a, ⟨y, c, d, e, true, true, rfl, z, k, i⟩, ?_⟩
 rintro C _ K ⟨l, m, n, o, p, rfl, s, k, i⟩
 have H := q C _ s
 clear q s
 try dsimp only at H ⊢
 apply brc H<;>intro h H
 ·obtain ⟨D, H⟩ := H
  obtain ⟨L, E, H⟩ := qaa H
  refine (qat.con D E (i.mono (Nat.zero_le _))).mono ?_
  rintro _ N ⟨rfl, F, G, I⟩
  have k := k.chg I (fun g J => (Or.inr J))
  have i := F
  refine ⟨rfl, ?_⟩
  cases u.trans H.symm
  exact ⟨rfl, i, (by first | (simp only [bC, wC, List.length_set]; done) | (simp only [bC, wC, List.length_set, G]; done) | (simp; done) | (simp; omega) | omega), k⟩
 apply brc H<;>intro h H
 ·exact H.elim
 exact H.elim
def qb1.vc (c : OA) (a d : Nat) (w : World) (K : VK) : Prop :=
  Cl 157 #[(.int .u64 (IntKind.wrap .u64 ((a : Nat) : Int)))] w fun e f => (∃ (b : Int), e = (iv b) ∧ Cl 209 #[(sv c a d), (iv 0), (iv ((a : Nat) : Int)), (iv b)] f fun g h => (g = (.tuple #[]) ∧ K (.tuple #[]) h))

def qb1.ann : Ann := (.seq .l .l)

theorem qb1.con {a : List Int} {b : OA} {d : Nat} {r : (List Int)} {w : World} (h : M.qeD a) (i : r = M.qb1 a) (c : Own el3 w 0 b d a) :
    Cl 180 #[(sv b a.length d)] w (fun j e => j = (.tuple #[]) ∧ Own el3 e 0 b d r ∧ r.length = a.length ∧ Chg (InB b) w e) := by
 have H := wp.qb1.math a h
 refine begK mixed Tryz.f180 ann (vc b a.length d) ?_
 unfold vc
 unfold wp.qb1 at H
 obtain ⟨k, H⟩ := H
 obtain ⟨l, m, H⟩ := qaa H
 refine (qcP.con k m ).mono ?_
 rintro _ v ⟨rfl, f⟩
 have c := c.ext f
 refine ⟨l, rfl, ?_⟩
 obtain ⟨n, H⟩ := H
 obtain ⟨x, o, H⟩ := qaa H
 refine (qaQ.con n o (c.mono (Nat.zero_le _))).mono ?_
 rintro _ y ⟨rfl, p, q, s⟩
 have t := ((Chg.refl (InB b) w).then f).chg s (fun g u => (Or.inr u))
 have c := p
 refine ⟨rfl, ?_⟩
 cases i.trans H.symm
 exact ⟨rfl, c, (by first | (simp only [bC, wC, List.length_set]; done) | (simp only [bC, wC, List.length_set, q]; done) | (simp; done) | (simp; omega) | omega), t⟩
def qaB.vc (c : OA) (d e : Nat) (w : World) (K : VK) : Prop :=
  qa1 (decide (((d : Nat) : Int) < 2)) (K (sv c d e) w) (qdh (σ := Int × Unit) (fun b g j => qa1 (decide (b.1 < ((d : Nat) : Int))) ((idx b.1 d c fun k => ldI g ((k.add ((b.1.toNat) * 1)).add 0) fun l => (idx (wrap .i64 (b.1 - 1)) d c fun m => ldI g ((m.add (((wrap .i64 (b.1 - 1)).toNat) * 1)).add 0) fun n => qa1 (l == n) (((0 : Int) ≤ b.1 ∧ b.1 ≤ ((d : Nat) : Int) ∧ qdh (σ := Int × Int × Unit) (fun a f h => qa1 (decide (a.2.1 < (((d - (b.1.toNat)) : Nat) : Int))) ((idx a.2.1 (d - (b.1.toNat)) ((if e = (b.1.toNat) then c else c.map (·.add ((b.1.toNat) * szOf Tryz.prog 3)))) fun o => ldI f ((o.add ((a.2.1.toNat) * 1)).add 0) fun p => (idx (wrap .i64 (a.2.1 - 1)) (d - (b.1.toNat)) ((if e = (b.1.toNat) then c else c.map (·.add ((b.1.toNat) * szOf Tryz.prog 3)))) fun q => ldI f ((q.add (((wrap .i64 (a.2.1 - 1)).toNat) * 1)).add 0) fun r => qa1 (p != r) ((idx a.2.1 (d - (b.1.toNat)) ((if e = (b.1.toNat) then c else c.map (·.add ((b.1.toNat) * szOf Tryz.prog 3)))) fun s => ∃ (i : Int), f.drew.cell? ((s.add ((a.2.1.toNat) * 1)).add 0) = some (iv i) ∧ (idx a.1 d c fun t => qa5 (t.add ((a.1.toNat) * 1)) [(iv i)] 0 f.drew fun u => h ((wrap .i64 (a.1 + 1)), (wrap .i64 (a.2.1 + 1)), ()) u))) (h (a.1, (wrap .i64 (a.2.1 + 1)), ()) f.drew)))) (((0 : Int) ≤ a.1 ∧ a.1 ≤ ((d : Nat) : Int) ∧ Run Tryz.prog (Builtin.clear_ #[24] 0 #[(sv (if e = (a.1.toNat) then c else c.map (·.add ((a.1.toNat) * szOf Tryz.prog 3))) (d - (a.1.toNat)) (e - (a.1.toNat)))]) f fun v x => v = .tuple #[] ∧ ((0 : Int) ≤ a.1 ∧ a.1 ≤ ((e : Nat) : Int) ∧ K (sv c (a.1.toNat) e) x)))) (b.1, 1, ()) g.drew)) (j ((wrap .i64 (b.1 + 1)), ()) g.drew)))) (K (sv c d e) g)) (1, ()) w)

def qaB.ann : Ann := (.seq .l (.seq (.seq .l (.two (.seq .l .l) .l)) (.seq (.seq .l (.one (.loop [(3, .int .i64)] (.seq (.seq .l (.two .l .l)) (.seq (.one (.seq .l (.two (.seq .l (.seq (.seq .l (.one (.loop [(3, .int .i64), (5, .int .i64)] (.seq (.seq .l (.two .l .l)) (.seq (.one (.seq .l (.two (.seq .l .l) .l))) .l))))) (.seq .l (.seq .l .l)))) .l))) .l))))) (.seq .l .l))))

theorem qaB.con {b r : List Int} {c : OA} {f : Nat} {w : World} (B : M.qeh b) (k : r = M.qaB b) (a : Own el3 w 0 c f b) :
    Cl 181 #[(sv c b.length f)] w (fun C i => ∃ (m : OA) (q : Nat), C = (sv m r.length q) ∧ Own el3 i 0 m q r ∧ Mov w c m ∧ Chg (InB c) w i) := by
 have H := wp.qaB.math b B
 have d := Chg.refl (InB c) w
 refine begK mixed Tryz.f181 ann (vc c b.length f) ?_
 unfold vc
 unfold wp.qaB at H
 apply brc H<;>intro h H
 ·cases k.trans H.symm
  exact ⟨c, f, rfl, (a.mono (Nat.zero_le _)), (Mov.same _ _), d⟩
 obtain ⟨D, ⟨E, F⟩, s⟩ := H
 refine ⟨fun n o i => ∃ (j : Int), o = (j, ()) ∧ D n (j, ()) ∧ Chg (InB c) w i ∧ Own el3 i 0 c f b, ⟨E, 1, rfl, F, d, a⟩, ?_⟩
 rintro G _ a4 ⟨j, rfl, t, d, a⟩
 have H := s G _ t
 clear s t
 try dsimp only at H ⊢
 apply brc H<;>intro h H
 ·obtain ⟨⟨u, v⟩, H⟩ := H
  obtain ⟨I, J, K⟩ := Row.at a.row u v
  refine ⟨u, v, I, J, _, (K 0 _ rfl), ?_⟩
  obtain ⟨⟨x, y⟩, H⟩ := H
  obtain ⟨L, N, O⟩ := Row.at a.row x y
  refine ⟨x, y, L, N, _, (O 0 _ rfl), ?_⟩
  have a := a.ext (Ext.drew _)
  have d := d.then (Ext.drew _)
  apply brc H<;>intro h H
  ·obtain ⟨⟨P, Q⟩, H⟩ := H
   refine and_assoc.1 ⟨⟨P, Q⟩, ?_⟩
   rw [show (b.length - (j.toNat)) = ((List.drop (j.toNat) b)).length from by first | rfl | (simp; done) | (simp; omega)]
   obtain ⟨R, ⟨S, T⟩, z⟩ := H
   refine ⟨fun n o i => ∃ (e p : Int), o = (e, p, ()) ∧ R n (e, p, ()) ∧ Chg (InB c) w i ∧ Own el3 i 0 c f b, ⟨S, j, 1, rfl, T, d, a⟩, ?_⟩
   rintro U _ a5 ⟨e, p, rfl, A, d, a⟩
   have H := z U _ A
   clear z A
   try dsimp only at H ⊢
   apply brc H<;>intro h H
   ·exact H.elim
   obtain ⟨⟨V, W⟩, H⟩ := H
   refine and_assoc.1 ⟨⟨V, W⟩, ?_⟩
   rw [show (b.length - (e.toNat)) = ((List.drop (e.toNat) b)).length from by first | rfl | (simp; done) | (simp; omega)]
   refine qlf qgO a (l := (e.toNat)) (by first | omega | (simp; omega)) (by first | rfl | (simp; done) | (simp; omega)) (fun a6 a X => ?_)
   have d := d.app X (fun g Y => (Or.inr Y))
   obtain ⟨⟨Z, a0⟩, H⟩ := H
   refine and_assoc.1 ⟨⟨Z, Int.le_trans a0 (Int.ofNat_le.2 a.le)⟩, ?_⟩
   rw [show (e.toNat) = ((List.take (e.toNat) (List.take (e.toNat) b ++ List.replicate (b.length - (e.toNat)) default))).length from by first | rfl | (simp; done) | (simp; omega)]
   have O4 := (a.take (e.toNat))
   cases k.trans H.symm
   exact ⟨c, f, rfl, (O4.mono (Nat.zero_le _)), (Mov.same _ _), d⟩
  obtain ⟨a1, a2, a3⟩ := H
  exact ⟨a1, a2, _, rfl, a3, d, a⟩
 cases k.trans H.symm
 exact ⟨c, f, rfl, (a.mono (Nat.zero_le _)), (Mov.same _ _), d⟩
def qdw.vc (z : OA) (e W : Nat) (a : Int) (w : World) (K : VK) : Prop :=
  qa1 (a == ((e : Nat) : Int)) (Run Tryz.prog (Instr.buildSlice 24 0 #[]) w fun A B => ∃ (j : OA) (k l : Nat), A = .slice j k l ∧ K (sv j k l) B) ((idx a e z fun c => ldI w ((c.add ((a.toNat) * 4)).add 0) fun C => ldI w ((c.add ((a.toNat) * 4)).add 1) fun D => ldI w ((c.add ((a.toNat) * 4)).add 2) fun E => ldI w ((c.add ((a.toNat) * 4)).add 3) fun F => newK w (.cells #[(iv 0), (iv 0), (iv 0), (iv 0)] 84) fun d G => qa5 (bx d) [(iv C), (iv D), (iv E), (iv F)] 0 G fun b => ldI b (((bx d).add 0).add 0) fun f => qa1 (f == 12) (Run Tryz.prog (Instr.buildSlice 24 1 #[(0, (iv ((e : Nat) : Int)))]) b fun H I => ∃ (m : OA) (n o : Nat), H = .slice m n o ∧ K (sv m n o) I) (qa1 (f == 11) (ldI b (((bx d).add 2).add 0) fun J => Run Tryz.prog (Instr.buildSlice 24 1 #[(0, (iv J))]) b fun L M => ∃ (p : OA) (q r : Nat), L = .slice p q r ∧ K (sv p q r) M) (qa1 (f == 10) (ldI b (((bx d).add 2).add 0) fun N => Run Tryz.prog (Instr.buildSlice 24 2 #[(0, (iv N)), (1, (iv (wrap .i64 (a + 1))))]) b fun O P => ∃ (g : OA) (h i : Nat), O = .slice g h i ∧ Cl 180 #[(sv g h i)] P fun Q R => (Q = (.tuple #[]) ∧ Cl 181 #[(sv g h i)] R fun S T => (∃ (s : OA) (t u : Nat), S = (sv s t u) ∧ K (sv s t u) T))) (Run Tryz.prog (Instr.buildSlice 24 1 #[(0, (iv (wrap .i64 (a + 1))))]) b fun U V => ∃ (v : OA) (x y : Nat), U = .slice v x y ∧ K (sv v x y) V)))))

def qdw.ann : Ann := (.seq .l (.seq (.seq .l (.two (.seq .l .l) .l)) (.seq (.seq .l (.seq .l (.one (.seq .l (.two (.seq .l .l) (.seq .l (.two (.seq .l .l) (.seq .l (.two (.seq .l (.seq .l (.seq .l .l))) .l))))))))) (.seq .l .l))))

theorem qdw.con {c : List D.Ins} {i : OA} {j : Nat} {d : Int} {r : List Int} {w : World} (y : M.qfP c d) (f : r = M.qdw c d) (z : Row el84 w i c) (a8 : c.length ≤ j) :
    Cl 147 #[(sv i c.length j), (iv d)] w (fun E l => ∃ (m : OA) (n : Nat), E = (sv m r.length n) ∧ Own el3 l w.heap.size m n r ∧ Ext w l) := by
 have H := wp.qdw.math c d y
 have b := Ext.refl w
 refine begK mixed Tryz.f147 ann (vc i c.length j d) ?_
 unfold vc
 unfold wp.qdw at H
 apply brc H<;>intro h H
 ·refine qaz el3 ([] : List Int) (fun _ => by kernel_rfl) rfl (fun F a9 G I => ?_)
  have o := G.mono b.size
  have b := qa6 b I
  cases f.trans H.symm
  exact ⟨F, 0, (by first | rfl | (simp; done) | (simp; omega) | (simp [*]; done)), (by first | exact o | (simp only [bC, wC, List.length_set]; exact o)), b⟩
 obtain ⟨⟨p, q⟩, H⟩ := H
 obtain ⟨J, K, g⟩ := Row.at (z.ext b) p q
 refine ⟨p, q, J, K, _, (g 0 _ rfl), _, (g 1 _ rfl), _, (g 2 _ rfl), _, (g 3 _ rfl), ?_⟩
 refine qid #[(iv ((rd c d).Op)), (iv ((rd c d).A)), (iv ((rd c d).B)), (iv ((rd c d).C))] (fun aa ab L3 k L => ?_)
 have b := qa6 b L
 refine ⟨_, (k.a 0), ?_⟩
 apply brc H<;>intro h H
 ·refine qaz el3 ([(c.length : Int)] : List Int) (fun _ => by kernel_rfl) rfl (fun N ac O P => ?_)
  have s := O.mono b.size
  have b := qa6 b P
  cases f.trans H.symm
  exact ⟨N, 1, (by first | rfl | (simp; done) | (simp; omega) | (simp [*]; done)), (by first | exact s | (simp only [bC, wC, List.length_set]; exact s)), b⟩
 apply brc H<;>intro h H
 ·refine ⟨_, (k.a 2), ?_⟩
  refine qaz el3 ([(rd c d).B] : List Int) (fun _ => by kernel_rfl) rfl (fun Q ad R S => ?_)
  have t := R.mono b.size
  have b := qa6 b S
  cases f.trans H.symm
  exact ⟨Q, 1, (by first | rfl | (simp; done) | (simp; omega) | (simp [*]; done)), (by first | exact t | (simp only [bC, wC, List.length_set]; exact t)), b⟩
 apply brc H<;>intro h H
 ·refine ⟨_, (k.a 2), ?_⟩
  refine qaz el3 ([(rd c d).B, (wrap .i64 (d + 1))] : List Int) (fun _ => by kernel_rfl) rfl (fun ae af T U => ?_)
  have e := T.mono b.size
  have b := qa6 b U
  obtain ⟨V, H⟩ := H
  obtain ⟨ag, W, H⟩ := qaa H
  refine (cllA (qb1.con V W (e.mono (Nat.zero_le _)))).mono ?_
  rintro _ ah ⟨rfl, X, Y, Z⟩
  have b := Chg.ext b Z e.low
  have e := X.up e
  refine ⟨rfl, ?_⟩
  obtain ⟨a0, H⟩ := H
  obtain ⟨a1, a2, H⟩ := qaa H
  refine (qhl (by first | (simp only [bC, wC, List.length_set, Y]; done) | (simp; done)) (qaB.con a0 a2 (e.mono (Nat.zero_le _)))).mono ?_
  rintro _ ai ⟨u, v, rfl, P7, a3, a4⟩
  have a5 := a3.low e.low b.size
  have b := Chg.ext b a4 e.low
  have O7 := P7.lift a5
  refine ⟨u, a1.length, v, rfl, ?_⟩
  cases f.trans H.symm
  exact ⟨u, v, rfl, O7, b⟩
 refine qaz el3 ([(wrap .i64 (d + 1))] : List Int) (fun _ => by kernel_rfl) rfl (fun a6 aj P8 a7 => ?_)
 have x := P8.mono b.size
 have b := qa6 b a7
 cases f.trans H.symm
 exact ⟨a6, 1, (by first | rfl | (simp; done) | (simp; omega) | (simp [*]; done)), (by first | exact x | (simp only [bC, wC, List.length_set]; exact x)), b⟩
def qbL.vc (c : OA) (b d : Nat) (w : World) (K : VK) : Prop :=
  Cl 75 #[(sv c b d)] w fun t e => (∃ (f : Bool), t = (.bool f) ∧ qa1 (!f) (K (sv none 0 0) e) (Run Tryz.prog (Instr.buildSlice 24 0 #[]) e fun u v => ∃ (g : OA) (h i : Nat), u = .slice g h i ∧ qdh (σ := (OA × Nat × Nat) × Int × Unit) (fun a j k => qa1 (decide (a.2.1 < ((b : Nat) : Int))) (Cl 147 #[(sv c b d), (iv a.2.1)] j fun x l => (∃ (y : OA) (m z : Nat), x = (sv y m z) ∧ qa1 (((m : Nat) : Int) == 2) (Run Tryz.prog (Instr.buildSlice 24 1 #[(0, (iv a.2.1))]) l fun A B => ∃ (n : OA) (o p : Nat), A = .slice n o p ∧ Run Tryz.prog (Builtin.append_ #[24, 24] 24 #[(sv a.1.1 a.1.2.1 a.1.2.2), (sv n o p)]) B fun C D => ∃ (q : OA) (r s : Nat), C = .slice q r s ∧ k ((q, r, s), (wrap .i64 (a.2.1 + 1)), ()) D) (k ((a.1.1, a.1.2.1, a.1.2.2), (wrap .i64 (a.2.1 + 1)), ()) l))) (K (sv a.1.1 a.1.2.1 a.1.2.2) j)) ((g, h, i), 0, ()) v))

def qbL.ann : Ann := (.seq .l (.seq (.seq .l (.two (.seq .l .l) .l)) (.seq .l (.seq (.seq .l (.one (.loop [(3, .sl), (11, .int .i64)] (.seq .l (.seq (.two .l .l) (.seq (.one (.seq .l (.seq .l (.two .l .l)))) .l)))))) (.seq .l .l)))))

theorem qbL.con {c : List D.Ins} {j : OA} {k : Nat} {r : List Int} {w : World} (v : M.qfs c) (l : r = M.qbL c) (m : Row el84 w j c) (n : c.length ≤ k) :
    Cl 91 #[(sv j c.length k)] w (fun x d => ∃ (o : OA) (p : Nat), x = (sv o r.length p) ∧ Own el3 d w.heap.size o p r ∧ Ext w d) := by
 have H := wp.qbL.math c v
 have a := Ext.refl w
 refine begK mixed Tryz.f91 ann (vc j c.length k) ?_
 unfold vc
 unfold wp.qbL at H
 obtain ⟨y, H⟩ := H
 obtain ⟨z, A, H⟩ := qaa H
 refine (qbn.con y A (m.ext a) n).mono ?_
 rintro _ a7 ⟨rfl, B⟩
 have a := qa6 a B
 refine ⟨z, rfl, ?_⟩
 apply brc H<;>intro h H
 ·cases l.trans H.symm
  exact ⟨none, 0, rfl, Own.nil, a⟩
 refine qaz el3 ([] : List Int) (fun _ => by kernel_rfl) rfl (fun C a8 E F => ?_)
 have G := E.mono a.size
 have a := qa6 a F
 obtain ⟨I, ⟨J, K⟩, q⟩ := H
 refine ⟨fun L N d => ∃ (e : List Int) (i : Int) (f : OA) (g : Nat), N = ((f, e.length, g), i, ()) ∧ I L (e, i, ()) ∧ Ext w d ∧ Own el3 d w.heap.size f g e, ⟨J, ([] : List Int), 0, C, 0, rfl, K, a, G⟩, ?_⟩
 rintro O _ a9 ⟨e, i, f, g, rfl, s, a, b⟩
 have H := q O _ s
 clear q s
 try dsimp only at H ⊢
 apply brc H<;>intro h H
 ·obtain ⟨P, H⟩ := H
  obtain ⟨Q, R, H⟩ := qaa H
  refine (qdw.con P R (m.ext a) n).mono ?_
  rintro _ aa ⟨S, T, rfl, P4, t⟩
  have b := b.ext t
  have a := qa6 a t
  refine ⟨S, Q.length, T, rfl, ?_⟩
  apply brc H<;>intro h H
  ·refine qaz el3 ([i] : List Int) (fun _ => by kernel_rfl) rfl (fun ab ac U u => ?_)
   have b := b.ext u
   have V := U.mono a.size
   have a := qa6 a u
   obtain ⟨W, H⟩ := H
   refine appO qgO b V.row a.size W (fun X Y ad Z a0 => ?_)
   have a := eapp a a0 b
   have b := Z
   obtain ⟨a1, a2, a3⟩ := H
   exact ⟨a1, a2, _, _, X, Y, rfl, a3, a, b⟩
  obtain ⟨a4, a5, a6⟩ := H
  exact ⟨a4, a5, e, _, f, g, rfl, a6, a, b⟩
 cases l.trans H.symm
 exact ⟨f, g, rfl, b, a⟩
def qdj.vc (e : OA) (f g : Nat) (h : Int) (w : World) (K : VK) : Prop :=
  Cl 91 #[(sv e f g)] w fun i j => (∃ (a : OA) (b c : Nat), i = (sv a b c) ∧ Cl 182 #[(sv a b c), (iv h)] j fun k l => (∃ (d : Bool), k = (.bool d) ∧ K (.bool d) l))

def qdj.ann : Ann := (.seq .l (.seq .l .l))

theorem qdj.con {a : List D.Ins} {d : OA} {e : Nat} {b : Int} {r : Bool} {w : World} (g : M.qfV a b) (h : r = M.qdj a b) (i : Row el84 w d a) (j : a.length ≤ e) :
    Cl 148 #[(sv d a.length e), (iv b)] w (fun k l => k = (.bool r) ∧ Ext w l) := by
 have H := wp.qdj.math a b g
 have c := Ext.refl w
 refine begK mixed Tryz.f148 ann (vc d a.length e b) ?_
 unfold vc
 unfold wp.qdj at H
 obtain ⟨m, H⟩ := H
 obtain ⟨n, o, H⟩ := qaa H
 refine (qbL.con m o (i.ext c) j).mono ?_
 rintro _ z ⟨p, q, rfl, s, t⟩
 have f := s.mono c.size
 refine ⟨p, n.length, q, rfl, ?_⟩
 obtain ⟨u, H⟩ := H
 obtain ⟨v, x, H⟩ := qaa H
 refine (qb5.con u x f.row f.le).mono ?_
 rintro _ A ⟨rfl, y⟩
 have c := qa6 (qa6 c t) y
 refine ⟨v, rfl, ?_⟩
 cases h.trans H.symm
 exact ⟨rfl, c⟩
def qcE.vc (q : OA) (b r : Nat) (s : OA) (t u : Nat) (v : Int) (w : World) (K : VK) : Prop :=
  qfT Tryz.prog 149 (wrap .i64 (((b : Nat) : Int) + 1)) (wrap .i64 (((b : Nat) : Int) + 1)) w fun e x => Cl 128 #[(sv s t u)] x fun y z => (∃ (g : OA) (h i : Nat), y = (sv g h i) ∧ qdh (σ := (OA × Nat × Nat) × Unit) (fun a c f => qa1 (decide (((a.1.2.1 : Nat) : Int) > 0)) ((idx 0 a.1.2.1 a.1.1 fun A => ldI c ((A.add (((0 : Int).toNat) * 1)).add 0) fun d => ((0 : Int) ≤ 1 ∧ 1 ≤ ((a.1.2.1 : Nat) : Int) ∧ qa1 (d == v) (f (((if a.1.2.2 = ((1 : Int).toNat) then a.1.1 else a.1.1.map (·.add (((1 : Int).toNat) * szOf Tryz.prog 3))), (a.1.2.1 - ((1 : Int).toNat)), (a.1.2.2 - ((1 : Int).toNat))), ()) c) ((idx d ((wrap .i64 (((b : Nat) : Int) + 1)).toNat) ((some (bx e))) fun B => ∃ (j : Bool), c.cell? ((B.add ((d.toNat) * 1)).add 0) = some (.bool j) ∧ qa1 j (f (((if a.1.2.2 = ((1 : Int).toNat) then a.1.1 else a.1.1.map (·.add (((1 : Int).toNat) * szOf Tryz.prog 3))), (a.1.2.1 - ((1 : Int).toNat)), (a.1.2.2 - ((1 : Int).toNat))), ()) c) ((idx d ((wrap .i64 (((b : Nat) : Int) + 1)).toNat) ((some (bx e))) fun C => qa5 (C.add ((d.toNat) * 1)) [(.bool true)] 0 c fun D => Cl 147 #[(sv q b r), (iv d)] D fun E F => (∃ (k : OA) (l m : Nat), E = (sv k l m) ∧ Run Tryz.prog (Builtin.append_ #[24, 24] 24 #[(sv (if a.1.2.2 = ((1 : Int).toNat) then a.1.1 else a.1.1.map (·.add (((1 : Int).toNat) * szOf Tryz.prog 3))) (a.1.2.1 - ((1 : Int).toNat)) (a.1.2.2 - ((1 : Int).toNat))), (sv k l m)]) F fun G H => ∃ (n : OA) (o p : Nat), G = .slice n o p ∧ f ((n, o, p), ()) H)))))))) (K (sv (some (bx e)) ((wrap .i64 (((b : Nat) : Int) + 1)).toNat) ((wrap .i64 (((b : Nat) : Int) + 1)).toNat)) c)) ((g, h, i), ()) z)

def qcE.ann : Ann := (.seq .l (.seq .l (.seq .l (.seq (.one (.loop [(8, .sl)] (.seq (.seq .l (.two .l .l)) (.one (.seq .l (.seq .l (.seq (.seq .l (.two .l .l)) (.seq .l .l)))))))) (.seq .l .l)))))

theorem qcE.con {c : List D.Ins} {p q : OA} {s t : Nat} {e : List Int} {k : Int} {r : List Bool} {w : World} (S : M.qfd c e k) (T : r = M.qcE c e k) (U : Row el84 w p c) (V : c.length ≤ s) (W : Row el3 w q e) (X : e.length ≤ t) :
    Cl 150 #[(sv p c.length s), (sv q e.length t), (iv k)] w (fun Y g => ∃ (B : OA) (C : Nat), Y = (sv B r.length C) ∧ Own el4 g w.heap.size B C r ∧ Ext w g) := by
 have H := wp.qcE.math c e k S
 have a := Ext.refl w
 refine begK mixed Tryz.f150 ann (vc p c.length s q e.length t k) ?_
 unfold vc
 unfold wp.qcE at H
 obtain ⟨⟨Z, a0⟩, H⟩ := H
 refine qjR qo3 Z a0 (fun E aE u a1 => ?_)
 have b := u.mono a.size
 have a := qa6 a a1
 obtain ⟨a2, H⟩ := H
 obtain ⟨F, a3, H⟩ := qaa H
 refine (qaq.con a2 a3 (W.ext a) X).mono ?_
 rintro _ aF ⟨G, I, rfl, P4, J⟩
 have b := b.ext J
 have O4 := P4.mono a.size
 have a := qa6 a J
 refine ⟨G, F.length, I, rfl, ?_⟩
 obtain ⟨a4, ⟨a5, a6⟩, K⟩ := H
 refine ⟨fun m_ z_ g => ∃ (i : List Int) (j : List Bool) (v : OA) (x : Nat), z_ = ((v, i.length, x), ()) ∧ a4 m_ (i, j, ()) ∧ Ext w g ∧ Own el3 g w.heap.size v x i ∧ Own el4 g w.heap.size (some (bx E)) ((wrap .i64 ((c.length : Int) + 1)).toNat) j ∧ ((wrap .i64 ((c.length : Int) + 1)).toNat) = j.length, ⟨a5, F, (List.replicate ((wrap .i64 ((c.length : Int) + 1)).toNat) (default : Bool)), G, I, rfl, a6, a, O4, b, (by first | rfl | assumption | omega | (simp; done) | (simp; omega) | (simp; assumption))⟩, ?_⟩
 rintro a7 _ aG ⟨i, j, v, x, rfl, L, a, f, b, N⟩
 have H := K a7 _ L
 clear K L
 try dsimp only at H ⊢
 apply brc H<;>intro h H
 ·obtain ⟨⟨O, P⟩, H⟩ := H
  obtain ⟨a8, a9, aa⟩ := Row.at f.row O P
  refine ⟨O, P, a8, a9, _, (aa 0 _ rfl), ?_⟩
  obtain ⟨⟨ab, ac⟩, H⟩ := H
  refine and_assoc.1 ⟨⟨ab, ac⟩, ?_⟩
  rw [show (i.length - ((1 : Int).toNat)) = ((List.drop ((1 : Int).toNat) i)).length from by first | rfl | (simp; done) | (simp; omega)]
  have d := (f.drop (l := ((1 : Int).toNat)) (by first | omega | (simp; done) | (simp; omega)))
  apply brc H<;>intro h H
  ·obtain ⟨ad, ae, af⟩ := H
   exact ⟨ad, ae, _, j, _, _, rfl, af, a, d, b, (by first | rfl | assumption | omega | (simp; done) | (simp; omega) | (simp; assumption))⟩
  obtain ⟨⟨Q, y⟩, H⟩ := H
  obtain ⟨ag, ah, ai⟩ := Row.at b.row Q y
  refine ⟨Q, (by first | exact y | omega | (simp at y ⊢; omega)), ag, ah, _, (ai 0 _ rfl), ?_⟩
  apply brc H<;>intro h H
  ·obtain ⟨aj, ak, al⟩ := H
   exact ⟨aj, ak, _, j, _, _, rfl, al, a, d, b, (by first | rfl | assumption | omega | (simp; done) | (simp; omega) | (simp; assumption))⟩
  obtain ⟨⟨z, m⟩, H⟩ := H
  obtain ⟨am, n, aH⟩ := Row.at b.row z m
  refine ⟨z, (by first | exact m | omega | (simp at m ⊢; omega)), am, n, ?_⟩
  refine Own.stA b n z m 0 true (fun aI u A an => ?_)
  have ao := f.chg A (((Own.qai f b (by decide))).left n)
  have d := d.chg A (((qhc (Own.qai f b (by decide)))).left n)
  have a := echg a A an
  obtain ⟨ap, H⟩ := H
  obtain ⟨aq, ar, H⟩ := qaa H
  refine (qdw.con ap ar (U.ext a) V).mono ?_
  rintro _ aJ ⟨au, av, rfl, aw, o⟩
  have b := u.ext o
  have f := ao.ext o
  have d := d.ext o
  have ax := aw.mono a.size
  have a := qa6 a o
  refine ⟨au, aq.length, av, rfl, ?_⟩
  obtain ⟨ay, H⟩ := H
  refine appO qgO d ax.row a.size ay (fun az aA aK P9 R => ?_)
  have b := b.app R (qhc (Own.qai b f (by decide)).symm).symm
  have a := eapp a R d
  have d := P9
  obtain ⟨aB, aC, aD⟩ := H
  exact ⟨aB, aC, _, _, az, aA, rfl, aD, a, d, b, (by first | rfl | assumption | omega | (simp; done) | (simp; omega) | (simp; assumption))⟩
 cases T.trans H.symm
 exact ⟨(some (bx E)), ((wrap .i64 ((c.length : Int) + 1)).toNat), (by first | rfl | (rw [N]; done) | (simp; done) | (simp; omega) | (simp [*]; done)), (by first | exact b | (simp only [bC, wC, List.length_set]; exact b) | (rw [← N]; exact b)), a⟩
def qbE.vc (i : OA) (a j : Nat) (k : Int) (w : World) (K : VK) : Prop :=
  Run Tryz.prog (Instr.buildSlice 24 1 #[(0, (iv k))]) w fun l m => ∃ (b : OA) (c d : Nat), l = .slice b c d ∧ Cl 150 #[(sv i a j), (sv b c d), (iv (-1))] m fun n e => (∃ (f : OA) (g o : Nat), n = (sv f g o) ∧ (idx ((a : Nat) : Int) g f fun p => ∃ (h : Bool), e.cell? ((p.add ((((a : Nat) : Int).toNat) * 1)).add 0) = some (.bool h) ∧ K (.bool h) e))

def qbE.ann : Ann := (.seq .l (.seq .l .l))

theorem qbE.con {b : List D.Ins} {d : OA} {e : Nat} {c : Int} {r : Bool} {w : World} (i : M.qeo b c) (j : r = M.qbE b c) (k : Row el84 w d b) (l : b.length ≤ e) :
    Cl 183 #[(sv d b.length e), (iv c)] w (fun m n => m = (.bool r) ∧ Ext w n) := by
 have H := wp.qbE.math b c i
 have a := Ext.refl w
 refine begK mixed Tryz.f183 ann (vc d b.length e c) ?_
 unfold vc
 unfold wp.qbE at H
 refine qaz el3 ([c] : List Int) (fun _ => by kernel_rfl) rfl (fun E F o p => ?_)
 have f := o.mono a.size
 have a := qa6 a p
 obtain ⟨q, H⟩ := H
 obtain ⟨s, t, H⟩ := qaa H
 refine (cllA (qcE.con q t (k.ext a) l f.row f.le)).mono ?_
 rintro _ G ⟨u, v, rfl, x, y⟩
 have z := x.mono a.size
 have a := qa6 a y
 refine ⟨u, s.length, v, rfl, ?_⟩
 obtain ⟨⟨g, h⟩, H⟩ := H
 obtain ⟨A, B, C⟩ := Row.at z.row g h
 refine ⟨g, h, A, B, _, (C 0 _ rfl), ?_⟩
 cases j.trans H.symm
 exact ⟨rfl, a⟩
def qdd.vc (e : OA) (a f : Nat) (g : Int) (w : World) (K : VK) : Prop :=
  Cl 75 #[(sv e a f)] w fun h b => (∃ (c : Bool), h = (.bool c) ∧ qa1 c (Cl 78 #[(iv g), (iv 0), (iv ((a : Nat) : Int))] b fun i j => (∃ (d : Bool), i = (.bool d) ∧ K (.bool d) j)) (K (.bool false) b))

def qdd.ann : Ann := (.seq .l (.seq .l .l))

theorem qdd.con {a : List D.Ins} {d : OA} {e : Nat} {c : Int} {r : Bool} {w : World} (g : M.qfJ a c) (f : r = M.qdd a c) (i : Row el84 w d a) (j : a.length ≤ e) :
    Cl 249 #[(sv d a.length e), (iv c)] w (fun k l => k = (.bool r) ∧ Ext w l) := by
 have H := wp.qdd.math a c g
 have b := Ext.refl w
 refine begK mixed Tryz.f249 ann (vc d a.length e c) ?_
 unfold vc
 unfold wp.qdd at H
 obtain ⟨m, H⟩ := H
 obtain ⟨n, o, H⟩ := qaa H
 refine (qbn.con m o (i.ext b) j).mono ?_
 rintro _ u ⟨rfl, p⟩
 have b := qa6 b p
 refine ⟨n, rfl, ?_⟩
 apply brc H<;>intro h H
 ·obtain ⟨q, s, H⟩ := qaa H
  refine (qar.con s ).mono ?_
  rintro _ v ⟨rfl, t⟩
  have b := qa6 b t
  refine ⟨q, rfl, ?_⟩
  cases f.trans H.symm
  exact ⟨rfl, b⟩
 cases f.trans H.symm
 exact ⟨rfl, b⟩
def qcp.vc (b : OA) (a c : Nat) (d n : Int) (w : World) (K : VK) : Prop :=
  Cl 183 #[(sv b a c), (iv d)] w fun o e => (∃ (f : Bool), o = (.bool f) ∧ qa1 f (Run Tryz.prog (Instr.buildSlice 24 1 #[(0, (iv d))]) e fun p q => ∃ (g : OA) (h i : Nat), p = .slice g h i ∧ Cl 150 #[(sv b a c), (sv g h i), (iv n)] q fun r j => (∃ (k : OA) (l s : Nat), r = (sv k l s) ∧ (idx ((a : Nat) : Int) l k fun t => ∃ (m : Bool), j.cell? ((t.add ((((a : Nat) : Int).toNat) * 1)).add 0) = some (.bool m) ∧ K (.bool (!m)) j))) (K (.bool false) e))

def qcp.ann : Ann := (.seq .l (.seq .l .l))

theorem qcp.con {b : List D.Ins} {e : OA} {f : Nat} {c d : Int} {r : Bool} {w : World} (n : M.qfh b c d) (g : r = M.qcp b c d) (i : Row el84 w e b) (j : b.length ≤ f) :
    Cl 239 #[(sv e b.length f), (iv c), (iv d)] w (fun o p => o = (.bool r) ∧ Ext w p) := by
 have H := wp.qcp.math b c d n
 have a := Ext.refl w
 refine begK mixed Tryz.f239 ann (vc e b.length f c d) ?_
 unfold vc
 unfold wp.qcp at H
 obtain ⟨q, H⟩ := H
 obtain ⟨s, t, H⟩ := qaa H
 refine (qbE.con q t (i.ext a) j).mono ?_
 rintro _ L ⟨rfl, u⟩
 have a := qa6 a u
 refine ⟨s, rfl, ?_⟩
 apply brc H<;>intro h H
 ·refine qaz el3 ([c] : List Int) (fun _ => by kernel_rfl) rfl (fun N O v x => ?_)
  have k := v.mono a.size
  have a := qa6 a x
  obtain ⟨y, H⟩ := H
  obtain ⟨z, A, H⟩ := qaa H
  refine (cllA (qcE.con y A (i.ext a) j k.row k.le)).mono ?_
  rintro _ P ⟨B, C, rfl, E, F⟩
  have G := E.mono a.size
  have a := qa6 a F
  refine ⟨B, z.length, C, rfl, ?_⟩
  obtain ⟨⟨l, m⟩, H⟩ := H
  obtain ⟨I, J, K⟩ := Row.at G.row l m
  refine ⟨l, m, I, J, _, (K 0 _ rfl), ?_⟩
  cases g.trans H.symm
  exact ⟨rfl, a⟩
 cases g.trans H.symm
 exact ⟨rfl, a⟩
def qbP.vc (a : OA) (b c : Nat) (d e : Int) (w : World) (K : VK) : Prop :=
  Cl 249 #[(sv a b c), (iv d)] w fun k f => (∃ (g : Bool), k = (.bool g) ∧ qa1 g (Cl 249 #[(sv a b c), (iv e)] f fun l h => (∃ (i : Bool), l = (.bool i) ∧ qa1 i (Cl 239 #[(sv a b c), (iv d), (iv e)] h fun m n => (∃ (j : Bool), m = (.bool j) ∧ K (.bool j) n)) (K (.bool false) h))) (K (.bool false) f))

def qbP.ann : Ann := (.seq .l (.seq .l .l))

theorem qbP.con {b : List D.Ins} {e : OA} {f : Nat} {c d : Int} {r : Bool} {w : World} (k : M.qgo b c d) (g : r = M.qbP b c d) (i : Row el84 w e b) (j : b.length ≤ f) :
    Cl 240 #[(sv e b.length f), (iv c), (iv d)] w (fun l m => l = (.bool r) ∧ Ext w m) := by
 have H := wp.qbP.math b c d k
 have a := Ext.refl w
 refine begK mixed Tryz.f240 ann (vc e b.length f c d) ?_
 unfold vc
 unfold wp.qbP at H
 obtain ⟨n, H⟩ := H
 obtain ⟨o, p, H⟩ := qaa H
 refine (qdd.con n p (i.ext a) j).mono ?_
 rintro _ B ⟨rfl, q⟩
 have a := qa6 a q
 refine ⟨o, rfl, ?_⟩
 apply brc H<;>intro h H
 ·obtain ⟨s, H⟩ := H
  obtain ⟨t, u, H⟩ := qaa H
  refine (qdd.con s u (i.ext a) j).mono ?_
  rintro _ C ⟨rfl, v⟩
  have a := qa6 a v
  refine ⟨t, rfl, ?_⟩
  apply brc H<;>intro h H
  ·obtain ⟨x, H⟩ := H
   obtain ⟨y, z, H⟩ := qaa H
   refine (qcp.con x z (i.ext a) j).mono ?_
   rintro _ E ⟨rfl, A⟩
   have a := qa6 a A
   refine ⟨y, rfl, ?_⟩
   cases g.trans H.symm
   exact ⟨rfl, a⟩
  cases g.trans H.symm
  exact ⟨rfl, a⟩
 cases g.trans H.symm
 exact ⟨rfl, a⟩
def qbY.vc (p : OA) (b q : Nat) (r : Int) (w : World) (K : VK) : Prop :=
  Run Tryz.prog (Instr.buildSlice 24 0 #[]) w fun s t => ∃ (c : OA) (d e : Nat), s = .slice c d e ∧ qdh (σ := (OA × Nat × Nat) × Int × Unit) (fun a f g => qa1 (decide (a.2.1 < (wrap .i64 (((b : Nat) : Int) + 1)))) (Cl 240 #[(sv p b q), (iv r), (iv a.2.1)] f fun u h => (∃ (i : Bool), u = (.bool i) ∧ qa1 i (Run Tryz.prog (Instr.buildSlice 24 1 #[(0, (iv a.2.1))]) h fun v x => ∃ (j : OA) (k l : Nat), v = .slice j k l ∧ Run Tryz.prog (Builtin.append_ #[24, 24] 24 #[(sv a.1.1 a.1.2.1 a.1.2.2), (sv j k l)]) x fun y z => ∃ (m : OA) (n o : Nat), y = .slice m n o ∧ g ((m, n, o), (wrap .i64 (a.2.1 + 1)), ()) z) (g ((a.1.1, a.1.2.1, a.1.2.2), (wrap .i64 (a.2.1 + 1)), ()) h))) (K (sv a.1.1 a.1.2.1 a.1.2.2) f)) ((c, d, e), 0, ()) t

def qbY.ann : Ann := (.seq .l (.seq .l (.seq (.seq .l (.one (.loop [(5, .sl), (11, .int .i64)] (.seq .l (.seq (.two .l .l) (.seq (.one (.seq .l (.seq .l (.two .l .l)))) .l)))))) (.seq .l .l))))

theorem qbY.con {c : List D.Ins} {k : OA} {l : Nat} {d : Int} {r : List Int} {w : World} (t : M.qg4 c d) (u : r = M.qbY c d) (v : Row el84 w k c) (x : c.length ≤ l) :
    Cl 213 #[(sv k c.length l), (iv d)] w (fun y e => ∃ (m : OA) (n : Nat), y = (sv m r.length n) ∧ Own el3 e w.heap.size m n r ∧ Ext w e) := by
 have H := wp.qbY.math c d t
 have a := Ext.refl w
 refine begK mixed Tryz.f213 ann (vc k c.length l d) ?_
 unfold vc
 unfold wp.qbY at H
 refine qaz el3 ([] : List Int) (fun _ => by kernel_rfl) rfl (fun z a2 A B => ?_)
 have C := A.mono a.size
 have a := qa6 a B
 obtain ⟨E, ⟨F, G⟩, o⟩ := H
 refine ⟨fun I J e => ∃ (f : List Int) (j : Int) (g : OA) (i : Nat), J = ((g, f.length, i), j, ()) ∧ E I (f, j, ()) ∧ Ext w e ∧ Own el3 e w.heap.size g i f, ⟨F, ([] : List Int), 0, z, 0, rfl, G, a, C⟩, ?_⟩
 rintro K _ a3 ⟨f, j, g, i, rfl, p, a, b⟩
 have H := o K _ p
 clear o p
 try dsimp only at H ⊢
 apply brc H<;>intro h H
 ·obtain ⟨L, H⟩ := H
  obtain ⟨N, O, H⟩ := qaa H
  refine (qbP.con L O (v.ext a) x).mono ?_
  rintro _ a4 ⟨rfl, q⟩
  have b := b.ext q
  have a := qa6 a q
  refine ⟨N, rfl, ?_⟩
  apply brc H<;>intro h H
  ·refine qaz el3 ([j] : List Int) (fun _ => by kernel_rfl) rfl (fun a5 a6 P s => ?_)
   have b := b.ext s
   have Q := P.mono a.size
   have a := qa6 a s
   obtain ⟨R, H⟩ := H
   refine appO qgO b Q.row a.size R (fun S T a7 U V => ?_)
   have a := eapp a V b
   have b := U
   obtain ⟨W, X, Y⟩ := H
   exact ⟨W, X, _, _, S, T, rfl, Y, a, b⟩
  obtain ⟨Z, a0, a1⟩ := H
  exact ⟨Z, a0, f, _, g, i, rfl, a1, a, b⟩
 cases u.trans H.symm
 exact ⟨g, i, rfl, b, a⟩
def qbC.vc (a : Int) (b : Addr) (w : World) (K : VK) : Prop :=
  ldI w (b.add 0) fun c => K (.bool (a == c)) w

def qbC.ann : Ann := (.seq .l (.seq .l .l))

theorem qbC.con {b c : Int} {d : Nat} {r : Bool} {w : World} (e : M.qeP b c) (f : r = M.qbC b c) (g : Blk w d 3 #[(iv c)]) :
    Cl 214 #[(iv b), (.pointer (some (bx d)))] w (fun h i => h = (.bool r) ∧ Ext w i) := by
 have H := wp.qbC.math b c e
 have j := Ext.refl w
 refine begK mixed Tryz.f214 ann (vc b (bx d)) ?_
 unfold vc
 unfold wp.qbC at H
 refine ⟨_, (g.a 0), ?_⟩
 cases f.trans H.symm
 exact ⟨rfl, j⟩
def qay.vc (b : OA) (c d g : Nat) (h : Array Value) (w : World) (K : VK) : Prop :=
  Cl 146 #[(sv b c d), (.func (.func g) #[] h)] w fun n i => (∃ (e : Int), n = (iv e) ∧ qa1 (e == (-1)) (K (sv b c d) i) (qdh (σ := Int × Int × Unit) (fun a f j => qa1 (decide (a.2.1 < ((c : Nat) : Int))) ((idx a.2.1 c b fun o => ldI f ((o.add ((a.2.1.toNat) * 1)).add 0) fun k => Cl g (#[(iv k)] ++ h) f fun p l => (∃ (m : Bool), p = (.bool m) ∧ qa1 (!m) ((idx a.1 c b fun q => qa5 (q.add ((a.1.toNat) * 1)) [(iv k)] 0 l fun r => j ((wrap .i64 (a.1 + 1)), (wrap .i64 (a.2.1 + 1)), ()) r)) (j (a.1, (wrap .i64 (a.2.1 + 1)), ()) l)))) (((0 : Int) ≤ a.1 ∧ a.1 ≤ ((c : Nat) : Int) ∧ Run Tryz.prog (Builtin.clear_ #[24] 0 #[(sv (if d = (a.1.toNat) then b else b.map (·.add ((a.1.toNat) * szOf Tryz.prog 3))) (c - (a.1.toNat)) (d - (a.1.toNat)))]) f fun s t => s = .tuple #[] ∧ ((0 : Int) ≤ a.1 ∧ a.1 ≤ ((d : Nat) : Int) ∧ K (sv b (a.1.toNat) d) t)))) (e, (wrap .i64 (e + 1)), ()) i))

def qay.ann : Ann := (.seq .l (.seq .l (.seq (.seq .l (.two (.seq .l .l) .l)) (.seq (.seq .l (.one (.loop [(5, .int .i64), (6, .int .i64)] (.seq (.seq .l (.two .l .l)) (.seq (.one (.seq .l (.seq .l (.two (.seq .l .l) .l)))) .l))))) (.seq .l (.seq .l .l))))))

theorem qay.start {A0 : OA} {n0 c0 f1 : Nat} {cap1 : Array Value} {w : World} {K : Value → World → Prop} (h : qay.vc A0 n0 c0 f1 cap1 w K) : Cl 212 #[(sv A0 n0 c0), (.func (.func f1) #[] cap1)] w K :=
  qdM mixed (fn := Tryz.f212) (by kernel_rfl) (by kernel_rfl) (an := qay.ann) (args := [(sv A0 n0 c0), (.func (.func f1) #[] cap1)]) (Eq.mpr (by kernel_rfl) h)

theorem qay.con {i r : List Int} {e : OA} {j z : Nat} {A : Array Value} {n : Int → Bool} {p : Int → Prop} {w : World} (K : M.qdX i n p) (B : r = M.qay i n) (a : Own el3 w 0 e j i) (C : ∀ (k : Int), p k → ∀ d : World, Chg (InB e) w d → Cl z (#[(iv k)] ++ A) d (fun q L => q = (.bool (n k)) ∧ Ext d L)) :
    Cl 212 #[(sv e i.length j), (.func (.func z) #[] A)] w (fun q d => ∃ (s : OA) (D : Nat), q = (sv s r.length D) ∧ Own el3 d 0 s D r ∧ Mov w e s ∧ Chg (InB e) w d) := by
 have H := wp.qay.math i n p K
 have b := Chg.refl (InB e) w
 refine qay.start ?_
 unfold vc
 unfold wp.qay at H
 obtain ⟨N, H⟩ := H
 obtain ⟨t, O, H⟩ := qaa H
 refine (qan.con N O a.row a.le (fun k  u d P => C k  u d (b.then P))).mono ?_
 rintro _ af ⟨rfl, E⟩
 have a := a.ext E
 have b := b.then E
 refine ⟨t, rfl, ?_⟩
 apply brc H<;>intro h H
 ·cases B.trans H.symm
  exact ⟨e, j, rfl, (a.mono (Nat.zero_le _)), (Mov.same _ _), b⟩
 obtain ⟨Q, ⟨R, S⟩, F⟩ := H
 refine ⟨fun T U d => ∃ (c m : Int) (f : List Int), U = (c, m, ()) ∧ Q T (c, m, f, ()) ∧ Chg (InB e) w d ∧ Own el3 d 0 e j f ∧ i.length = f.length, ⟨R, t, (wrap .i64 (t + 1)), i, rfl, S, b, a, (by first | rfl | assumption | omega | (simp; done) | (simp; omega) | (simp; assumption))⟩, ?_⟩
 rintro V _ ag ⟨c, m, f, rfl, G, b, a, ah⟩
 have H := F V _ G
 clear F G
 try dsimp only at H ⊢
 apply brc H<;>intro h H
 ·obtain ⟨⟨I, v⟩, H⟩ := H
  obtain ⟨W, X, Y⟩ := Row.at a.row I v
  refine ⟨I, (by first | exact v | omega | (simp at v ⊢; omega)), W, X, _, (Y 0 _ rfl), ?_⟩
  obtain ⟨Z, H⟩ := H
  obtain ⟨a0, a1, H⟩ := qaa H
  refine (C (rd f m) Z _ b).mono ?_
  rintro _ ai ⟨rfl, J⟩
  rw [← a1]
  have a := a.ext J
  have b := b.then J
  refine ⟨a0, rfl, ?_⟩
  apply brc H<;>intro h H
  ·obtain ⟨⟨x, o⟩, H⟩ := H
   obtain ⟨a2, y, aj⟩ := Row.at a.row x o
   refine ⟨x, (by first | exact o | omega | (simp at o ⊢; omega)), a2, y, ?_⟩
   refine Own.stA a y x o 0 (rd f m) (fun ak a a3 al => ?_)
   have b := b.chgb a3 (Or.inr ⟨_, y, rfl⟩)
   obtain ⟨a4, a5, a6⟩ := H
   exact ⟨a4, a5, _, _, _, rfl, a6, b, a, (by first | rfl | assumption | omega | (simp; done) | (simp; omega) | (simp; assumption))⟩
  obtain ⟨a7, a8, a9⟩ := H
  exact ⟨a7, a8, c, _, f, rfl, a9, b, a, (by first | rfl | assumption | omega | (simp; done) | (simp; omega) | (simp; assumption))⟩
 obtain ⟨⟨aa, ab⟩, H⟩ := H
 refine and_assoc.1 ⟨⟨aa, (by first | exact ab | omega)⟩, ?_⟩
 rw [show (i.length - (c.toNat)) = ((List.drop (c.toNat) f)).length from by first | rfl | (simp; done) | (simp; omega)]
 refine qlf qgO a (l := (c.toNat)) (by first | omega | (simp; omega)) (by first | rfl | (simp; done) | (simp; omega)) (fun am a ac => ?_)
 have b := b.app ac (fun g u => (Or.inr u))
 obtain ⟨⟨ad, ae⟩, H⟩ := H
 refine and_assoc.1 ⟨⟨ad, Int.le_trans ae (Int.ofNat_le.2 a.le)⟩, ?_⟩
 rw [show (c.toNat) = ((List.take (c.toNat) (List.take (c.toNat) f ++ List.replicate (f.length - (c.toNat)) default))).length from by first | rfl | (simp; done) | (simp; omega)]
 have O3 := (a.take (c.toNat))
 cases B.trans H.symm
 exact ⟨e, j, rfl, (O3.mono (Nat.zero_le _)), (Mov.same _ _), b⟩
def qcl.vc (b : Int) (c d : Addr) (w : World) (K : VK) : Prop :=
  ldS w (c.add 0) fun e f g => ldI w (d.add 0) fun h => Cl 239 #[(sv e f g), (iv h), (iv b)] w fun i j => (∃ (a : Bool), i = (.bool a) ∧ K (.bool (!a)) j)

def qcl.ann : Ann := (.seq .l (.seq .l .l))

theorem qcl.con {c d : Int} {b : List D.Ins} {f h g : Nat} {i : OA} {r : Bool} {w : World} (j : M.qfK c b d) (k : r = M.qcl c b d) (l : Blk w f 30 #[(sv i b.length h)]) (m : Row el84 w i b) (n : b.length ≤ h) (o : Blk w g 3 #[(iv d)]) :
    Cl 238 #[(iv c), (.pointer (some (bx f))), (.pointer (some (bx g)))] w (fun p q => p = (.bool r) ∧ Ext w q) := by
 have H := wp.qcl.math c b d j
 have e := Ext.refl w
 refine begK mixed Tryz.f238 ann (vc c (bx f) (bx g)) ?_
 unfold vc
 unfold wp.qcl at H
 refine ⟨_, _, _, (l.a 0), _, (o.a 0), ?_⟩
 obtain ⟨s, H⟩ := H
 obtain ⟨t, u, H⟩ := qaa H
 refine (qcp.con s u (m.ext e) n).mono ?_
 rintro _ x ⟨rfl, v⟩
 have e := qa6 e v
 refine ⟨t, rfl, ?_⟩
 cases k.trans H.symm
 exact ⟨rfl, e⟩
def qdz.vc (h : OA) (i j : Nat) (f : OA) (b k : Nat) (w : World) (K : VK) : Prop :=
  newK w (.cells #[(sv h i j)] 30) fun l m => qdh (σ := Int × Unit) (fun a c n => qa1 (decide (a.1 < ((b : Nat) : Int))) ((idx a.1 b f fun o => ldI c ((o.add ((a.1.toNat) * 1)).add 0) fun p => newK c (.cells #[(iv 0)] 3) fun d q => qa5 (bx d) [(iv p)] 0 q fun r => Cl 90 #[(sv f b k), (.func (.func 238) #[] #[(.pointer (some (bx l))), (.pointer (some (bx d)))])] r fun s e => (∃ (g : Bool), s = (.bool g) ∧ qa1 (!g) (ldI e ((bx d).add 0) fun t => K (iv t) e) (n ((wrap .i64 (a.1 + 1)), ()) e)))) (K (iv (-1)) c)) (0, ()) m

def qdz.ann : Ann := (.seq .l (.seq (.seq .l (.one (.loop [(9, .int .i64)] (.seq .l (.seq (.two .l .l) (.seq (.one (.seq .l (.seq .l (.two (.seq .l .l) .l)))) .l)))))) (.seq .l .l)))

theorem qdz.con {c : List D.Ins} {g l : OA} {i m : Nat} {d : List Int} {r : Int} {w : World} (y : M.qgs c d) (p : r = M.qdz c d) (z : Row el84 w g c) (A : c.length ≤ i) (q : Row el3 w l d) (B : d.length ≤ m) :
    Cl 211 #[(sv g c.length i), (sv l d.length m)] w (fun C f => C = (iv r) ∧ Ext w f) := by
 have H := wp.qdz.math c d y
 refine begK mixed Tryz.f211 ann (vc g c.length i l d.length m) ?_
 unfold vc
 unfold wp.qdz at H
 refine qaL (fun E Y Z e F => ?_)
 have b := qa6 (Ext.refl w) F
 obtain ⟨G, ⟨I, J⟩, s⟩ := H
 refine ⟨fun K L f => ∃ (j : Int), L = (j, ()) ∧ G K (j, ()) ∧ Ext w f ∧ Blk f E 30 #[(sv g c.length i)], ⟨I, 0, rfl, J, b, e⟩, ?_⟩
 rintro N _ a0 ⟨j, rfl, t, b, e⟩
 have H := s N _ t
 clear s t
 try dsimp only at H ⊢
 apply brc H<;>intro h H
 ·obtain ⟨⟨u, v⟩, H⟩ := H
  obtain ⟨O, P, Q⟩ := Row.at (q.ext b) u v
  refine ⟨u, v, O, P, _, (Q 0 _ rfl), ?_⟩
  refine qid #[(iv (rd d j))] (fun a1 a2 L4 k x => ?_)
  have e := e.ext x
  have b := qa6 b x
  obtain ⟨R, H⟩ := H
  obtain ⟨S, T, H⟩ := qaa H
  refine (qak.con R T (q.ext b) B (fun a3 U f n => qii (l1 := [_]) (l2 := [_, _]) (qcl.con U rfl (e.ext n) (z.ext (qa6 b n)) A (k.ext n)))).mono ?_
  rintro _ a4 ⟨rfl, o⟩
  have e := e.ext o
  have k := k.ext o
  have b := qa6 b o
  refine ⟨S, rfl, ?_⟩
  apply brc H<;>intro h H
  ·refine ⟨_, (k.a 0), ?_⟩
   cases p.trans H.symm
   exact ⟨rfl, b⟩
  obtain ⟨V, W, X⟩ := H
  exact ⟨V, W, _, rfl, X, b, e⟩
 cases p.trans H.symm
 exact ⟨rfl, b⟩
def qci.vc (a : OA) (b c : Nat) (m : Int) (w : World) (K : VK) : Prop :=
  newK w (.cells #[(iv m)] 3) fun d e => ldI e ((bx d).add 0) fun n => Cl 213 #[(sv a b c), (iv n)] e fun o p => (∃ (f : OA) (g h : Nat), o = (sv f g h) ∧ Cl 212 #[(sv f g h), (.func (.func 214) #[] #[(.pointer (some (bx d)))])] p fun q r => (∃ (i : OA) (j k : Nat), q = (sv i j k) ∧ Cl 211 #[(sv a b c), (sv i j k)] r fun s t => (∃ (l : Int), s = (iv l) ∧ K (iv l) t)))

def qci.ann : Ann := (.seq .l (.seq .l .l))

theorem qci.con {c : List D.Ins} {f : OA} {g : Nat} {d r : Int} {w : World} (o : M.qfm c d) (p : r = M.qci c d) (i : Row el84 w f c) (j : c.length ≤ g) :
    Cl 184 #[(sv f c.length g), (iv d)] w (fun q k => q = (iv r) ∧ Ext w k) := by
 have H := wp.qci.math c d o
 refine begK mixed Tryz.f184 ann (vc f c.length g d) ?_
 unfold vc
 unfold wp.qci at H
 refine qaL (fun S T U e s => ?_)
 have b := qa6 (Ext.refl w) s
 refine ⟨_, (e.a 0), ?_⟩
 obtain ⟨t, H⟩ := H
 obtain ⟨u, v, H⟩ := qaa H
 refine (qbY.con t v (i.ext b) j).mono ?_
 rintro _ V ⟨x, y, rfl, l, m⟩
 have z := l.qap e.lt
 have e := e.ext m
 have h := l.mono b.size
 have b := qa6 b m
 refine ⟨x, u.length, y, rfl, ?_⟩
 obtain ⟨A, H⟩ := H
 obtain ⟨B, C, H⟩ := qaa H
 refine (qay.con A C (h.mono (Nat.zero_le _)) (fun W E k F => qii (l1 := [_]) (l2 := [_]) (qbC.con E rfl (e.chgS F (z).inb)))).mono ?_
 rintro _ X ⟨G, I, rfl, J, K, L⟩
 have N := K.low h.low b.size
 have b := Chg.ext b L h.low
 have n := J.lift N
 refine ⟨G, B.length, I, rfl, ?_⟩
 obtain ⟨O, H⟩ := H
 obtain ⟨P, Q, H⟩ := qaa H
 refine (qdz.con O Q (i.ext b) j n.row n.le).mono ?_
 rintro _ Y ⟨rfl, R⟩
 have b := qa6 b R
 refine ⟨P, rfl, ?_⟩
 cases p.trans H.symm
 exact ⟨rfl, b⟩
def qdn.vc (b : OA) (a c : Nat) (e : Int) (w : World) (K : VK) : Prop :=
  Cl 148 #[(sv b a c), (iv e)] w fun n h => (∃ (i : Bool), n = (.bool i) ∧ qa1 (!i) (K (iv (-1)) h) (Cl 147 #[(sv b a c), (iv e)] h fun o p => (∃ (j : OA) (f q : Nat), o = (sv j f q) ∧ qdh (σ := Int × Unit) (fun d g r => qa1 (decide (d.1 < ((f : Nat) : Int))) ((idx d.1 f j fun s => ldI g ((s.add ((d.1.toNat) * 1)).add 0) fun t => Cl 183 #[(sv b a c), (iv t)] g fun u k => (∃ (l : Bool), u = (.bool l) ∧ qa1 (!l) (K (iv ((a : Nat) : Int)) k) (r ((wrap .i64 (d.1 + 1)), ()) k)))) (Cl 184 #[(sv b a c), (iv e)] g fun v x => (∃ (m : Int), v = (iv m) ∧ K (iv m) x))) (0, ()) p)))

def qdn.ann : Ann := (.seq .l (.seq (.seq .l (.two (.seq .l .l) .l)) (.seq (.seq .l (.one (.loop [(15, .int .i64)] (.seq .l (.seq (.two .l .l) (.seq (.one (.seq .l (.seq .l (.two (.seq .l .l) .l)))) .l)))))) (.seq .l .l))))

theorem qdn.con {b : List D.Ins} {i : OA} {j : Nat} {d r : Int} {w : World} (v : M.qgX b d) (k : r = M.qdn b d) (e : Row el84 w i b) (f : b.length ≤ j) :
    Cl 151 #[(sv i b.length j), (iv d)] w (fun x g => x = (iv r) ∧ Ext w g) := by
 have H := wp.qdn.math b d v
 have a := Ext.refl w
 refine begK mixed Tryz.f151 ann (vc i b.length j d) ?_
 unfold vc
 unfold wp.qdn at H
 obtain ⟨y, H⟩ := H
 obtain ⟨z, A, H⟩ := qaa H
 refine (qdj.con y A (e.ext a) f).mono ?_
 rintro _ a2 ⟨rfl, B⟩
 have a := qa6 a B
 refine ⟨z, rfl, ?_⟩
 apply brc H<;>intro h H
 ·cases k.trans H.symm
  exact ⟨rfl, a⟩
 obtain ⟨C, H⟩ := H
 obtain ⟨m, E, H⟩ := qaa H
 refine (qdw.con C E (e.ext a) f).mono ?_
 rintro _ a3 ⟨n, o, rfl, F, G⟩
 have c := F.mono a.size
 have a := qa6 a G
 refine ⟨n, m.length, o, rfl, ?_⟩
 obtain ⟨I, ⟨J, K⟩, p⟩ := H
 refine ⟨fun L N g => ∃ (l : Int), N = (l, ()) ∧ I L (l, ()) ∧ Ext w g ∧ Own el3 g w.heap.size n o m, ⟨J, 0, rfl, K, a, c⟩, ?_⟩
 rintro O _ a4 ⟨l, rfl, q, a, c⟩
 have H := p O _ q
 clear p q
 try dsimp only at H ⊢
 apply brc H<;>intro h H
 ·obtain ⟨⟨s, t⟩, H⟩ := H
  obtain ⟨P, Q, R⟩ := Row.at c.row s t
  refine ⟨s, t, P, Q, _, (R 0 _ rfl), ?_⟩
  obtain ⟨S, H⟩ := H
  obtain ⟨T, U, H⟩ := qaa H
  refine (qbE.con S U (e.ext a) f).mono ?_
  rintro _ a5 ⟨rfl, u⟩
  have c := c.ext u
  have a := qa6 a u
  refine ⟨T, rfl, ?_⟩
  apply brc H<;>intro h H
  ·cases k.trans H.symm
   exact ⟨rfl, a⟩
  obtain ⟨V, W, X⟩ := H
  exact ⟨V, W, _, rfl, X, a, c⟩
 obtain ⟨Y, H⟩ := H
 obtain ⟨Z, a0, H⟩ := qaa H
 refine (qci.con Y a0 (e.ext a) f).mono ?_
 rintro _ a6 ⟨rfl, a1⟩
 have a := qa6 a a1
 refine ⟨Z, rfl, ?_⟩
 cases k.trans H.symm
 exact ⟨rfl, a⟩
def qaM.vc (A0 : OA) (x c0 : Nat) (y : Int) (z : OA) (A B : Nat) (C : OA) (D E : Nat) (w : World) (K : VK) : Prop :=
  newK w (.cells #[(iv y), (sv z A B), (sv C D E)] 52) fun j F => newK F (.cells #[(iv 0), (sv none 0 0), (sv none 0 0)] 52) fun e f => ldI f ((bx j).add 0) fun G => ldS f ((bx j).add 1) fun H I J => ldS f ((bx j).add 2) fun L M N => Cl 221 #[(.agg #[(iv G), (sv H I J), (sv L M N)])] f fun O P => (∃ (l : Int), True ∧ ∃ (m : OA) (n o : Nat), True ∧ ∃ (p : OA) (q r : Nat), True ∧ O = (.agg #[(iv l), (sv m n o), (sv p q r)]) ∧ newK P (.cells #[(iv 0), (sv none 0 0), (sv none 0 0)] 52) fun a Q => qa5 (bx a) [(iv l), (sv m n o), (sv p q r)] 0 Q fun s => ldS s (((bx a).add 1).add 0) fun az R aA => qdh (σ := Int × Unit) (fun b d t => qa1 (decide (b.1 ≥ 0)) (ldS d (((bx a).add 1).add 0) fun S T aB => (idx b.1 T S fun k => ldI d ((k.add ((b.1.toNat) * 3)).add 0) fun U => ldI d ((k.add ((b.1.toNat) * 3)).add 1) fun V => ldI d ((k.add ((b.1.toNat) * 3)).add 2) fun W => newK d (.cells #[(iv 0), (iv 0), (iv 0)] 91) fun g X => qa5 (bx g) [(iv U), (iv V), (iv W)] 0 X fun c => ldI c (((bx g).add 0).add 0) fun Y => ldI c (((bx g).add 1).add 0) fun Z => qa1 (Y != Z) (ldI c (((bx g).add 0).add 0) fun a0 => qa1 (a0 != ((x : Nat) : Int)) (ldI c ((bx a).add 0) fun a1 => ldS c ((bx a).add 1) fun a2 a3 a4 => ldS c ((bx a).add 2) fun a5 a6 a7 => qa5 (bx e) [(iv a1), (sv a2 a3 a4), (sv a5 a6 a7)] 0 c fun h => ldI h ((bx e).add 0) fun a8 => ldS h ((bx e).add 1) fun a9 aa ab => ldS h ((bx e).add 2) fun ac ad ae => K (.agg #[(iv a8), (sv a9 aa ab), (sv ac ad ae)]) h) (ldS c (((bx a).add 1).add 0) fun af aC u => ((0 : Int) ≤ b.1 ∧ b.1 ≤ ((u : Nat) : Int) ∧ qa5 ((bx a).add 1) [(sv af (b.1.toNat) u)] 0 c fun ag => t ((wrap .i64 (b.1 - 1)), ()) ag))) (ldS c (((bx a).add 1).add 0) fun ah aD v => ((0 : Int) ≤ b.1 ∧ b.1 ≤ ((v : Nat) : Int) ∧ qa5 ((bx a).add 1) [(sv ah (b.1.toNat) v)] 0 c fun ai => t ((wrap .i64 (b.1 - 1)), ()) ai)))) (ldI d ((bx a).add 0) fun aj => ldS d ((bx a).add 1) fun ak al am => ldS d ((bx a).add 2) fun an ao ap => qa5 (bx e) [(iv aj), (sv ak al am), (sv an ao ap)] 0 d fun i => ldI i ((bx e).add 0) fun aq => ldS i ((bx e).add 1) fun ar au av => ldS i ((bx e).add 2) fun aw ax ay => K (.agg #[(iv aq), (sv ar au av), (sv aw ax ay)]) i)) ((wrap .i64 (((R : Nat) : Int) - 1)), ()) s)

def qaM.ann : Ann := (.seq .l (.seq .l (.seq (.seq .l (.one (.loop [(6, .int .i64)] (.seq (.seq .l (.two .l .l)) (.seq (.one (.seq .l (.seq (.seq .l (.two .l .l)) .l))) .l))))) (.seq .l .l))))

theorem qaM.con {u : List D.Ins} {L N O : OA} {P Q R : Nat} {k r : D.Warp} {w : World} (hp : M.qcZ u k) (hr : r = M.qaM u k) (R0 : Row el84 w L u) (aM : u.length ≤ P) (ab : Row el91 w N k.Frames) (ac : k.Frames.length ≤ Q) (ad : Row el3 w O k.Regs) (ae : k.Regs.length ≤ R) :
    Cl 202 #[(sv L u.length P), (.agg (wC N Q O R k))] w (fun v_ q => ∃ (a0 : OA) (a1 : Nat) (a2 : OA) (a3 : Nat), v_ = (.agg (wC a0 a1 a2 a3 r)) ∧ Own el91 q w.heap.size a0 a1 r.Frames ∧ Own el3 q w.heap.size a2 a3 r.Regs ∧ Ext w q) := by
 have H := wp.qaM.math u k hp
 refine begK mixed Tryz.f202 ann (vc L u.length P k.Number N k.Frames.length Q O k.Regs.length R) ?_
 unfold vc
 unfold wp.qaM at H
 refine qaL (fun aN aO L4 y af => ?_)
 have b := qa6 (Ext.refl w) af
 refine qaL (fun ag aP E z a4 => ?_)
 have y := y.ext a4
 have c := z
 have E := Nat.le_trans b.size E
 have b := qa6 b a4
 refine ⟨_, (y.a 0), _, _, _, (y.a 1), _, _, _, (y.a 2), ?_⟩
 obtain ⟨ah, H⟩ := H
 obtain ⟨i, ai, H⟩ := qaa H
 refine (qcd.con ah ai (ab.ext b) ac (ad.ext b) ae).mono ?_
 rintro _ aQ ⟨S, T, n, p, rfl, P6, P7, a5⟩
 have a6 := P7.qap c.lt
 have c := c.ext a5
 have F := P6.mono b.size
 have e := P7.mono b.size
 have b := qa6 b a5
 refine ⟨i.Number, trivial, S, i.Frames.length, T, trivial, n, i.Regs.length, p, trivial, rfl, ?_⟩
 refine qaL (fun aj aR t v G => ?_)
 have U := c.ne t
 have ak := F.qaD t
 have V := e.qaD t
 have e := e.ext G
 have d := v
 have t := Nat.le_trans b.size t
 have b := qa6 b G
 refine stB d 0 (wC S T n p i) (fun aS v I => ?_)
 have c := (c.ext G).chg I U
 have F := (F.ext G).chg I ak
 have W := e.chg I V
 have e := W
 have b := echg b I t
 have d := v
 refine ⟨_, _, _, (d.a 1), ?_⟩
 obtain ⟨al, ⟨am, an⟩, a7⟩ := H
 refine ⟨fun m_ z_ q => ∃ (g s : Int) (j : List D.Frame) (l : OA) (m : Nat), z_ = (g, ()) ∧ al m_ (g, s, j, ()) ∧ Ext w q ∧ Blk q aj 52 #[(iv s), (sv l j.length m), (sv n i.Regs.length p)] ∧ Own el91 q w.heap.size l m j ∧ Blk q ag 52 #[(iv 0), (sv none 0 0), (sv none 0 0)] ∧ Own el3 q w.heap.size n p i.Regs, ⟨am, (wrap .i64 ((i.Frames.length : Int) - 1)), i.Number, i.Frames, S, T, rfl, an, b, d, F, c, e⟩, ?_⟩
 rintro ao _ aT ⟨g, s, j, l, m, rfl, a8, b, d, f, c, e⟩
 have H := a7 ao _ a8
 clear a7 a8
 try dsimp only at H ⊢
 apply brc H<;>intro h H
 ·refine ⟨_, _, _, (d.a 1), ?_⟩
  obtain ⟨⟨a9, aa⟩, H⟩ := H
  obtain ⟨ap, aq, X⟩ := Row.at f.row a9 aa
  refine ⟨a9, aa, ap, aq, _, (X 0 _ rfl), _, (X 1 _ rfl), _, (X 2 _ rfl), ?_⟩
  refine qaL (fun aU aV x ar A => ?_)
  have au := c.ne x
  have av := e.qaD x
  have aw := d.ne x
  have ax := f.qaD x
  have c := c.ext A
  have e := e.ext A
  have f := f.ext A
  have B := ar
  have x := Nat.le_trans b.size x
  have b := qa6 b A
  refine qda B (o := 0) (cs' := #[(iv ((rd j g).Pc)), (iv ((rd j g).Stop)), (iv ((rd j g).Mask))]) rfl rfl (Nat.le_of_ble_eq_true rfl) rfl (fun aW B C => ?_)
  have ay := c.chg C au
  have W := e.chg C av
  have d := (d.ext A).chg C aw
  have az := f.chg C ax
  have c := ay
  have e := W
  have f := az
  have b := echg b C x
  refine ⟨_, (B.a 0), _, (B.a 1), ?_⟩
  apply brc H<;>intro h H
  ·refine ⟨_, (B.a 0), ?_⟩
   apply brc H<;>intro h H
   ·refine ⟨_, (d.a 0), _, _, _, (d.a 1), _, _, _, (d.a 2), ?_⟩
    refine stB c 0 #[(iv s), (sv l j.length m), (sv n i.Regs.length p)] (fun aX z Y => ?_)
    have e := e.chg Y a6
    have f := f.chg Y (f.qa3 c (by decide))
    have b := echg b Y E
    have c := z
    refine ⟨_, (c.a 0), _, _, _, (c.a 1), _, _, _, (c.a 2), ?_⟩
    cases hr.trans H.symm
    exact ⟨l, m, n, p, rfl, f, e, b⟩
   refine ⟨_, _, _, (d.a 1), ?_⟩
   obtain ⟨⟨aA, aB⟩, H⟩ := H
   refine and_assoc.1 ⟨⟨aA, Int.le_trans aB (Int.ofNat_le.2 f.le)⟩, ?_⟩
   rw [show (g.toNat) = ((List.take (g.toNat) j)).length from by first | rfl | (simp; done) | (simp; omega)]
   refine stB d 1 #[(iv s), (sv l (((List.take (g.toNat) j)).length) m), (sv n i.Regs.length p)] (fun aY v J => ?_)
   have c := c.chg J U
   have e := e.chg J V
   have aC := ((f.take (g.toNat))).chg J (f.qa3 d (by decide))
   have b := echg b J t
   have d := v
   obtain ⟨aD, aE, aF⟩ := H
   exact ⟨aD, aE, _, s, _, l, m, rfl, aF, b, d, aC, c, e⟩
  refine ⟨_, _, _, (d.a 1), ?_⟩
  obtain ⟨⟨aG, aH⟩, H⟩ := H
  refine and_assoc.1 ⟨⟨aG, Int.le_trans aH (Int.ofNat_le.2 f.le)⟩, ?_⟩
  rw [show (g.toNat) = ((List.take (g.toNat) j)).length from by first | rfl | (simp; done) | (simp; omega)]
  refine stB d 1 #[(iv s), (sv l (((List.take (g.toNat) j)).length) m), (sv n i.Regs.length p)] (fun aZ v K => ?_)
  have c := c.chg K U
  have e := e.chg K V
  have aI := ((f.take (g.toNat))).chg K (f.qa3 d (by decide))
  have b := echg b K t
  have d := v
  obtain ⟨aJ, aK, aL⟩ := H
  exact ⟨aJ, aK, _, s, _, l, m, rfl, aL, b, d, aI, c, e⟩
 refine ⟨_, (d.a 0), _, _, _, (d.a 1), _, _, _, (d.a 2), ?_⟩
 refine stB c 0 #[(iv s), (sv l j.length m), (sv n i.Regs.length p)] (fun b0 z Z => ?_)
 have e := e.chg Z a6
 have f := f.chg Z (f.qa3 c (by decide))
 have b := echg b Z E
 have c := z
 refine ⟨_, (c.a 0), _, _, _, (c.a 1), _, _, _, (c.a 2), ?_⟩
 cases hr.trans H.symm
 exact ⟨l, m, n, p, rfl, f, e, b⟩
def qd5.vc (C : OA) (D c0 : Nat) (E : Int) (F : OA) (G H : Nat) (I : OA) (J L : Nat) (w : World) (K : VK) : Prop :=
  newK w (.cells #[(iv E), (sv F G H), (sv I J L)] 52) fun f M => Run Tryz.prog (Instr.buildSlice 24 0 #[]) M fun N q => ∃ (r : OA) (s t : Nat), N = .slice r s t ∧ ldS q (((bx f).add 2).add 0) fun O P Q => Run Tryz.prog (Builtin.append_ #[24, 24] 24 #[(sv r s t), (sv O P Q)]) q fun R d => ∃ (j : OA) (k u : Nat), R = .slice j k u ∧ ldS d (((bx f).add 1).add 0) fun S T ad => ldS d (((bx f).add 1).add 0) fun ae h af => (idx (wrap .i64 (((h : Nat) : Int) - 1)) T S fun l => ldI d ((l.add (((wrap .i64 (((h : Nat) : Int) - 1)).toNat) * 3)).add 0) fun U => ldI d ((l.add (((wrap .i64 (((h : Nat) : Int) - 1)).toNat) * 3)).add 1) fun V => ldI d ((l.add (((wrap .i64 (((h : Nat) : Int) - 1)).toNat) * 3)).add 2) fun W => newK d (.cells #[(iv 0), (iv 0), (iv 0)] 91) fun m X => qa5 (bx m) [(iv U), (iv V), (iv W)] 0 X fun Y => qdh (σ := Int × Unit) (fun a n v => qa1 (decide (a.1 < 8)) (ldI n (((bx m).add 2).add 0) fun Z => Cl 101 #[(iv Z), (iv a.1)] n fun a0 b => (∃ (x : Bool), a0 = (.bool x) ∧ qa1 x ((∃ c : Nat → Prop, ldIM c b ((bx m).add 0) 0 fun g => (idx g D C fun i => ldIM c b (i.add ((g.toNat) * 4)) 0 fun a1 => ldIM c b (i.add ((g.toNat) * 4)) 1 fun a2 => ldIM c b (i.add ((g.toNat) * 4)) 2 fun a3 => ldIM c b (i.add ((g.toNat) * 4)) 3 fun a4 => ldIM c b ((bx f).add 0) 0 fun a5 => ldSM c b ((bx f).add 2) 0 fun y ag o => ((0 : Int) ≤ (wrap .i64 ((wrap .i64 (a.1 + 1)) * 4)) ∧ (wrap .i64 ((wrap .i64 (a.1 + 1)) * 4)) ≤ ((o : Nat) : Int) ∧ ((0 : Int) ≤ (wrap .i64 (a.1 * 4)) ∧ (wrap .i64 (a.1 * 4)) ≤ ((((wrap .i64 ((wrap .i64 (a.1 + 1)) * 4)).toNat) : Nat) : Int) ∧ Cl 244 #[(.agg #[(iv a1), (iv a2), (iv a3), (iv a4)]), (iv (wrap .i64 ((wrap .i64 (a5 * 8)) + a.1))), (sv (if o = ((wrap .i64 (a.1 * 4)).toNat) then y else y.map (·.add (((wrap .i64 (a.1 * 4)).toNat) * szOf Tryz.prog 3))) (((wrap .i64 ((wrap .i64 (a.1 + 1)) * 4)).toNat) - ((wrap .i64 (a.1 * 4)).toNat)) (o - ((wrap .i64 (a.1 * 4)).toNat)))] b.drew fun a6 z => (∃ (A : OA) (B a7 : Nat), a6 = (sv A B a7) ∧ qab c b z ∧ qdh (σ := Int × Unit) (fun e p a8 => qa1 (decide (e.1 < 4)) ((idx e.1 B A fun a9 => ldI p ((a9.add ((e.1.toNat) * 1)).add 0) fun aa => (idx (wrap .i64 ((wrap .i64 (a.1 * 4)) + e.1)) k j fun ab => qa5 (ab.add (((wrap .i64 ((wrap .i64 (a.1 * 4)) + e.1)).toNat) * 1)) [(iv aa)] 0 p fun ac => a8 ((wrap .i64 (e.1 + 1)), ()) ac))) (v ((wrap .i64 (a.1 + 1)), ()) p)) (0, ()) z)))))) (v ((wrap .i64 (a.1 + 1)), ()) b))) (K (sv j k u) n)) (0, ()) Y)

def qd5.ann : Ann := (.seq .l (.seq .l (.seq .l (.seq (.seq .l (.one (.loop [(7, .int .i64)] (.seq (.seq .l (.two .l .l)) (.seq (.one (.seq .l (.two (.seq .l (.seq .l (.one (.loop [(9, .int .i64)] (.seq (.seq .l (.two .l .l)) (.seq (.one .l) .l)))))) .l))) .l))))) (.seq .l .l)))))

theorem qd5.con {k : List D.Ins} {G p q : OA} {I s n : Nat} {b : D.Warp} {r : List Int} {w : World} (hp : M.qfZ k b) (hr : r = M.qd5 k b) (R0 : Row el84 w G k) (aY : k.length ≤ I) (af : Row el91 w p b.Frames) (aZ : b.Frames.length ≤ s) (V : Row el3 w q b.Regs) (J : b.Regs.length ≤ n) :
    Cl 223 #[(sv G k.length I), (.agg (wC p s q n b))] w (fun v_ g => ∃ (W : OA) (X : Nat), v_ = (sv W r.length X) ∧ Own el3 g w.heap.size W X r ∧ Ext w g) := by
 have H := wp.qd5.math k b hp
 refine begK mixed Tryz.f223 ann (vc G k.length I b.Number p b.Frames.length s q b.Regs.length n) ?_
 unfold vc
 unfold wp.qd5 at H
 refine qaL (fun Y b0 L4 d ag => ?_)
 have c := qa6 (Ext.refl w) ag
 refine qaz el3 ([] : List Int) (fun _ => by kernel_rfl) rfl (fun b1 b2 x Z => ?_)
 have y := x.qap d.lt
 have d := d.ext Z
 have e := x.mono c.size
 have c := qa6 c Z
 refine ⟨_, _, _, (d.a 2), ?_⟩
 obtain ⟨ah, H⟩ := H
 refine appO qgO e (V.ext c) c.size ah (fun K L b3 x N => ?_)
 have ai := Apart.app y N d.lt
 have d := d.app N y
 have y := ai
 have c := eapp c N e
 have e := x
 refine ⟨_, _, _, (d.a 1), _, _, _, (d.a 1), ?_⟩
 obtain ⟨⟨a0, a1⟩, H⟩ := H
 obtain ⟨aj, ak, O⟩ := Row.at (af.ext c) a0 a1
 refine ⟨a0, a1, aj, ak, _, (O 0 _ rfl), _, (O 1 _ rfl), _, (O 2 _ rfl), ?_⟩
 refine qid #[(iv ((rd b.Frames (wrap .i64 ((b.Frames.length : Int) - 1))).Pc)), (iv ((rd b.Frames (wrap .i64 ((b.Frames.length : Int) - 1))).Stop)), (iv ((rd b.Frames (wrap .i64 ((b.Frames.length : Int) - 1))).Mask))] (fun a2 b4 L6 f P => ?_)
 have al := e.qaD L6
 have d := d.ext P
 have e := e.ext P
 have c := qa6 c P
 obtain ⟨am, ⟨an, ao⟩, a3⟩ := H
 refine ⟨fun Q R g => ∃ (i : Int) (t : List Int), R = (i, ()) ∧ am Q (i, t, ()) ∧ Ext w g ∧ Own el3 g w.heap.size K L t ∧ ((([] : List Int) ++ b.Regs)).length = t.length ∧ Blk g Y 52 (wC p s q n b) ∧ Blk g a2 91 #[(iv ((rd b.Frames (wrap .i64 ((b.Frames.length : Int) - 1))).Pc)), (iv ((rd b.Frames (wrap .i64 ((b.Frames.length : Int) - 1))).Stop)), (iv ((rd b.Frames (wrap .i64 ((b.Frames.length : Int) - 1))).Mask))], ⟨an, 0, (([] : List Int) ++ b.Regs), rfl, ao, c, e, (by first | rfl | assumption | omega | (simp; done) | (simp; omega) | (simp; assumption)), d, f⟩, ?_⟩
 rintro ap _ b5 ⟨i, t, rfl, a4, c, e, a5, d, f⟩
 have H := a3 ap _ a4
 clear a3 a4
 try dsimp only at H ⊢
 apply brc H<;>intro h H
 ·refine ⟨_, (f.a 2), ?_⟩
  obtain ⟨aq, ar, H⟩ := qaa H
  refine (qbO.con ar ).mono ?_
  rintro _ au ⟨rfl, z⟩
  have d := d.ext z
  have e := e.ext z
  have f := f.ext z
  have c := qa6 c z
  refine ⟨aq, rfl, ?_⟩
  apply brc H<;>intro h H
  ·refine ⟨(fun _ => False), _, noM (f.a 0), ?_⟩
   obtain ⟨⟨a6, a7⟩, H⟩ := H
   obtain ⟨av, aw, A⟩ := Row.at (R0.ext c) a6 a7
   refine ⟨a6, a7, av, aw, _, ⟨(fun j => j), (A 0 _ rfl)⟩, _, ⟨(fun j => j), (A 1 _ rfl)⟩, _, ⟨(fun j => j), (A 2 _ rfl)⟩, _, ⟨(fun j => j), (A 3 _ rfl)⟩, _, noM (d.a 0), _, _, _, noM (d.a 2), ?_⟩
   obtain ⟨⟨ax, ay, az, b6⟩, H⟩ := H
   refine and_assoc.1 ⟨⟨ax, Int.le_trans ay (Int.ofNat_le.2 J)⟩, ?_⟩
   refine and_assoc.1 ⟨⟨az, (by omega)⟩, ?_⟩
   rw [show (((wrap .i64 ((wrap .i64 (i + 1)) * 4)).toNat) - ((wrap .i64 (i * 4)).toNat)) = ((List.drop ((wrap .i64 (i * 4)).toNat) (List.take ((wrap .i64 ((wrap .i64 (i + 1)) * 4)).toNat) b.Regs))).length from by first | rfl | (simp; done) | (simp; omega)]
   have aA := ((V.take ((wrap .i64 ((wrap .i64 (i + 1)) * 4)).toNat)).drop (l := ((wrap .i64 (i * 4)).toNat)) (m := n) (by have := J; simp; omega))
   have aB : ((List.drop ((wrap .i64 (i * 4)).toNat) (List.take ((wrap .i64 ((wrap .i64 (i + 1)) * 4)).toNat) b.Regs))).length ≤ (n - ((wrap .i64 (i * 4)).toNat)) := by have := J; simp; omega
   have d := d.ext (Ext.drew _)
   have e := e.ext (Ext.drew _)
   have f := f.ext (Ext.drew _)
   have c := qa6 c (Ext.drew _)
   have S := (Chg.refl (fun _ => False) au).then (Ext.drew _)
   obtain ⟨aC, H⟩ := H
   obtain ⟨T, aD, H⟩ := qaa H
   refine (qb7.con aC aD (aA.ext c) aB).mono ?_
   rintro _ b7 ⟨a8, a9, rfl, aa, u⟩
   have aE := aN e aa
   have d := d.ext u
   have e := e.ext u
   have f := f.ext u
   have o := aa.mono c.size
   have c := qa6 c u
   have S := S.then u
   refine ⟨a8, T.length, a9, rfl, qaw S, ?_⟩
   obtain ⟨aF, ⟨aG, aH⟩, ab⟩ := H
   refine ⟨fun Q R g => ∃ (B : Int) (C : List Int), R = (B, ()) ∧ aF Q (B, C, ()) ∧ Ext w g ∧ Own el3 g w.heap.size K L C ∧ ((([] : List Int) ++ b.Regs)).length = C.length ∧ Blk g Y 52 (wC p s q n b) ∧ Blk g a2 91 #[(iv ((rd b.Frames (wrap .i64 ((b.Frames.length : Int) - 1))).Pc)), (iv ((rd b.Frames (wrap .i64 ((b.Frames.length : Int) - 1))).Stop)), (iv ((rd b.Frames (wrap .i64 ((b.Frames.length : Int) - 1))).Mask))] ∧ Own el3 g w.heap.size a8 a9 T, ⟨aG, 0, t, rfl, aH, c, e, (by first | rfl | assumption | omega | (simp; done) | (simp; omega) | (simp; assumption)), d, f, o⟩, ?_⟩
   rintro aI _ b8 ⟨B, C, rfl, ac, c, e, b9, d, f, o⟩
   have H := ab aI _ ac
   clear ab ac
   try dsimp only at H ⊢
   apply brc H<;>intro h H
   ·obtain ⟨⟨ad, ae⟩, H⟩ := H
    obtain ⟨aJ, aK, aL⟩ := Row.at o.row ad ae
    refine ⟨ad, ae, aJ, aK, _, (aL 0 _ rfl), ?_⟩
    obtain ⟨⟨U, E⟩, H⟩ := H
    obtain ⟨aM, v, ba⟩ := Row.at e.row U E
    refine ⟨U, (by first | exact E | omega | (simp at E ⊢; omega)), aM, v, ?_⟩
    refine Own.stA e v U E 0 (rd T B) (fun bb e F aO => ?_)
    have d := d.chg F (fun j => (y) _ v j.symm)
    have f := f.chg F (fun j => (al) _ v j.symm)
    have o := o.chg F (((aE).symm).left v)
    have c := echg c F aO
    obtain ⟨aP, aQ, aR⟩ := H
    exact ⟨aP, aQ, _, _, rfl, aR, c, e, (by first | rfl | assumption | omega | (simp; done) | (simp; omega) | (simp; assumption)), d, f, o⟩
   obtain ⟨aS, aT, aU⟩ := H
   exact ⟨aS, aT, _, _, rfl, aU, c, e, (by first | rfl | assumption | omega | (simp; done) | (simp; omega) | (simp; assumption)), d, f⟩
  obtain ⟨aV, aW, aX⟩ := H
  exact ⟨aV, aW, _, _, rfl, aX, c, e, (by first | rfl | assumption | omega | (simp; done) | (simp; omega) | (simp; assumption)), d, f⟩
 cases hr.trans H.symm
 exact ⟨K, L, (by first | rfl | (rw [a5]; done) | (simp; done) | (simp; omega) | (simp [*]; done)), (by first | exact e | (simp only [bC, wC, List.length_set]; exact e) | (rw [← a5]; exact e)), c⟩
def qdr.vc (f : OA) (e j : Nat) (aH : Int) (aI : OA) (aJ aK : Nat) (aL : OA) (aM aN : Nat) (w : World) (K : VK) : Prop :=
  newK w (.cells #[(iv aH), (sv aI aJ aK), (sv aL aM aN)] 52) fun c aO => newK aO (.cells #[(iv 0), (sv none 0 0), (sv none 0 0)] 52) fun b s => ldI s ((bx c).add 0) fun aP => ldS s ((bx c).add 1) fun aQ aR aS => ldS s ((bx c).add 2) fun aT aU aV => Cl 221 #[(.agg #[(iv aP), (sv aQ aR aS), (sv aT aU aV)])] s fun aW aX => (∃ (I : Int), True ∧ ∃ (J : OA) (L M : Nat), True ∧ ∃ (N : OA) (O P : Nat), True ∧ aW = (.agg #[(iv I), (sv J L M), (sv N O P)]) ∧ newK aX (.cells #[(iv 0), (sv none 0 0), (sv none 0 0)] 52) fun a aY => qa5 (bx a) [(iv I), (sv J L M), (sv N O P)] 0 aY fun o => ldS o (((bx c).add 1).add 0) fun dB d dC => ldS o (((bx c).add 1).add 0) fun aZ b0 dD => (idx (wrap .i64 (((d : Nat) : Int) - 1)) b0 aZ fun G => ldI o ((G.add (((wrap .i64 (((d : Nat) : Int) - 1)).toNat) * 3)).add 0) fun b1 => ldI o ((G.add (((wrap .i64 (((d : Nat) : Int) - 1)).toNat) * 3)).add 1) fun b2 => ldI o ((G.add (((wrap .i64 (((d : Nat) : Int) - 1)).toNat) * 3)).add 2) fun b3 => newK o (.cells #[(iv 0), (iv 0), (iv 0)] 91) fun l b4 => qa5 (bx l) [(iv b1), (iv b2), (iv b3)] 0 b4 fun p => ldI p (((bx l).add 0).add 0) fun q => (idx q e f fun t => ldI p ((t.add ((q.toNat) * 4)).add 0) fun b5 => ldI p ((t.add ((q.toNat) * 4)).add 1) fun b6 => ldI p ((t.add ((q.toNat) * 4)).add 2) fun b7 => ldI p ((t.add ((q.toNat) * 4)).add 3) fun b8 => newK p (.cells #[(iv 0), (iv 0), (iv 0), (iv 0)] 84) fun k w64 => qa5 (bx k) [(iv b5), (iv b6), (iv b7), (iv b8)] 0 w64 fun u => ldI u ((bx c).add 0) fun b9 => ldS u ((bx c).add 1) fun ba bb bc => ldS u ((bx c).add 2) fun bd be bf => Cl 169 #[(sv f e j), (.agg #[(iv b9), (sv ba bb bc), (sv bd be bf)])] u fun bg g => (∃ (Q : Bool), bg = (.bool Q) ∧ qa1 Q (ldI g ((bx c).add 0) fun bh => ldS g ((bx c).add 1) fun bi bj bk => ldS g ((bx c).add 2) fun bl bm bn => ldI g (((bx k).add 1).add 0) fun bo => Cl 205 #[(.agg #[(iv bh), (sv bi bj bk), (sv bl bm bn)]), (iv bo)] g fun bp R => (∃ (H : Int), bp = (iv H) ∧ ldI R (((bx l).add 0).add 0) fun bq => Cl 222 #[(sv f e j), (iv bq)] R fun br S => (∃ (v : Int), br = (iv v) ∧ ldS S (((bx a).add 1).add 0) fun bs bt dE => (idx (wrap .i64 (((d : Nat) : Int) - 1)) bt bs fun bu => qa5 ((bu.add (((wrap .i64 (((d : Nat) : Int) - 1)).toNat) * 3)).add 0) [(iv v)] 0 S fun r => ldS r (((bx a).add 1).add 0) fun bv bw bz => ldI r (((bx l).add 0).add 0) fun bA => ldI r (((bx l).add 2).add 0) fun bB => ldI r (((bx k).add 2).add 0) fun bC => Run Tryz.prog (Instr.buildSlice 50 2 #[(0, (.agg #[(iv (wrap .i64 (bA + 1))), (iv v), (iv (wrap .i64 (bB - H)))])), (1, (.agg #[(iv bC), (iv v), (iv H)]))]) r fun bD bE => ∃ (T : OA) (U V : Nat), bD = .slice T U V ∧ Run Tryz.prog (Builtin.append_ #[50, 50] 50 #[(sv bv bw bz), (sv T U V)]) bE fun bF bG => ∃ (W : OA) (X Y : Nat), bF = .slice W X Y ∧ qa5 ((bx a).add 1) [(sv W X Y)] 0 bG fun x => ldI x ((bx a).add 0) fun bH => ldS x ((bx a).add 1) fun bI bJ bK => ldS x ((bx a).add 2) fun bL bM bN => Cl 202 #[(sv f e j), (.agg #[(iv bH), (sv bI bJ bK), (sv bL bM bN)])] x fun bO bP => (∃ (Z : Int), True ∧ ∃ (a0 : OA) (a1 a2 : Nat), True ∧ ∃ (a3 : OA) (a4 a5 : Nat), True ∧ bO = (.agg #[(iv Z), (sv a0 a1 a2), (sv a3 a4 a5)]) ∧ qa5 (bx b) [(iv Z), (sv a0 a1 a2), (sv a3 a4 a5)] 0 bP fun y => ldI y ((bx b).add 0) fun bQ => ldS y ((bx b).add 1) fun bR bS bT => ldS y ((bx b).add 2) fun bU bV bW => K (.agg #[(iv bQ), (sv bR bS bT), (sv bU bV bW)]) y))))) (ldI g ((bx c).add 0) fun bX => ldS g ((bx c).add 1) fun bY bZ c1 => ldS g ((bx c).add 2) fun c2 c3 c4 => Cl 223 #[(sv f e j), (.agg #[(iv bX), (sv bY bZ c1), (sv c2 c3 c4)])] g fun c5 c6 => (∃ (a6 : OA) (a7 a8 : Nat), c5 = (sv a6 a7 a8) ∧ qa5 ((bx a).add 2) [(sv a6 a7 a8)] 0 c6 fun h => ldI h (((bx k).add 0).add 0) fun a9 => qa1 (a9 == 12) (ldS h (((bx a).add 1).add 0) fun c7 c8 dF => (idx (wrap .i64 (((d : Nat) : Int) - 1)) c8 c7 fun c9 => qa5 ((c9.add (((wrap .i64 (((d : Nat) : Int) - 1)).toNat) * 3)).add 0) [(iv ((e : Nat) : Int))] 0 h fun z => ldI z ((bx a).add 0) fun ca => ldS z ((bx a).add 1) fun cb cc cd => ldS z ((bx a).add 2) fun ce cf cg => Cl 202 #[(sv f e j), (.agg #[(iv ca), (sv cb cc cd), (sv ce cf cg)])] z fun ch ci => (∃ (aa : Int), True ∧ ∃ (ab : OA) (ac ad : Nat), True ∧ ∃ (ae : OA) (af ag : Nat), True ∧ ch = (.agg #[(iv aa), (sv ab ac ad), (sv ae af ag)]) ∧ qa5 (bx b) [(iv aa), (sv ab ac ad), (sv ae af ag)] 0 ci fun A => ldI A ((bx b).add 0) fun cj => ldS A ((bx b).add 1) fun ck cl cm => ldS A ((bx b).add 2) fun cn co cp => K (.agg #[(iv cj), (sv ck cl cm), (sv cn co cp)]) A))) (qa1 (a9 == 11) (ldS h (((bx a).add 1).add 0) fun cq cr dG => ldI h (((bx k).add 2).add 0) fun cs => (idx (wrap .i64 (((d : Nat) : Int) - 1)) cr cq fun ct => qa5 ((ct.add (((wrap .i64 (((d : Nat) : Int) - 1)).toNat) * 3)).add 0) [(iv cs)] 0 h fun B => ldI B ((bx a).add 0) fun cu => ldS B ((bx a).add 1) fun cv cw cx => ldS B ((bx a).add 2) fun cy cz cA => Cl 202 #[(sv f e j), (.agg #[(iv cu), (sv cv cw cx), (sv cy cz cA)])] B fun cB cC => (∃ (ah : Int), True ∧ ∃ (ai : OA) (aj ak : Nat), True ∧ ∃ (al : OA) (am an : Nat), True ∧ cB = (.agg #[(iv ah), (sv ai aj ak), (sv al am an)]) ∧ qa5 (bx b) [(iv ah), (sv ai aj ak), (sv al am an)] 0 cC fun C => ldI C ((bx b).add 0) fun cD => ldS C ((bx b).add 1) fun cE cF cG => ldS C ((bx b).add 2) fun cH cI cJ => K (.agg #[(iv cD), (sv cE cF cG), (sv cH cI cJ)]) C))) (ldS h (((bx a).add 1).add 0) fun cK cL dH => ldI h (((bx l).add 0).add 0) fun cM => (idx (wrap .i64 (((d : Nat) : Int) - 1)) cL cK fun cN => qa5 ((cN.add (((wrap .i64 (((d : Nat) : Int) - 1)).toNat) * 3)).add 0) [(iv (wrap .i64 (cM + 1)))] 0 h fun i => qfo (σ := Bool × Unit) (fun ao => (∃ m : Nat → Prop, ldIM m i ((bx k).add 0) 0 fun cO => qa1 (cO == 10) (ldIM m i (bx c) 0 fun cP => ldSM m i (bx c) 1 fun cQ cR cS => ldSM m i (bx c) 2 fun cT cU cV => ldIM m i ((bx k).add 1) 0 fun cW => ldIM m i ((bx l).add 2) 0 fun cX => Cl 205 #[(.agg #[(iv cP), (sv cQ cR cS), (sv cT cU cV)]), (iv cW)] i.drew fun cY ap => (∃ (aq : Int), cY = (iv aq) ∧ qab m i ap ∧ ao ((aq == cX), ()) ap)) (ao (false, ()) i.drew))) fun cZ n => qa1 cZ.1 (ldS n (((bx a).add 1).add 0) fun d0 d1 dI => ldI n (((bx k).add 2).add 0) fun d2 => (idx (wrap .i64 (((d : Nat) : Int) - 1)) d1 d0 fun d3 => qa5 ((d3.add (((wrap .i64 (((d : Nat) : Int) - 1)).toNat) * 3)).add 0) [(iv d2)] 0 n fun D => ldI D ((bx a).add 0) fun d4 => ldS D ((bx a).add 1) fun d5 d6 d7 => ldS D ((bx a).add 2) fun d8 d9 da => Cl 202 #[(sv f e j), (.agg #[(iv d4), (sv d5 d6 d7), (sv d8 d9 da)])] D fun db dc => (∃ (ar : Int), True ∧ ∃ (au : OA) (av aw : Nat), True ∧ ∃ (ax : OA) (ay az : Nat), True ∧ db = (.agg #[(iv ar), (sv au av aw), (sv ax ay az)]) ∧ qa5 (bx b) [(iv ar), (sv au av aw), (sv ax ay az)] 0 dc fun E => ldI E ((bx b).add 0) fun dd => ldS E ((bx b).add 1) fun de df dg => ldS E ((bx b).add 2) fun dh di dj => K (.agg #[(iv dd), (sv de df dg), (sv dh di dj)]) E))) (ldI n ((bx a).add 0) fun dk => ldS n ((bx a).add 1) fun dl dm dn => ldS n ((bx a).add 2) fun dp dq dr => Cl 202 #[(sv f e j), (.agg #[(iv dk), (sv dl dm dn), (sv dp dq dr)])] n fun ds dt => (∃ (aA : Int), True ∧ ∃ (aB : OA) (aC aD : Nat), True ∧ ∃ (aE : OA) (aF aG : Nat), True ∧ ds = (.agg #[(iv aA), (sv aB aC aD), (sv aE aF aG)]) ∧ qa5 (bx b) [(iv aA), (sv aB aC aD), (sv aE aF aG)] 0 dt fun F => ldI F ((bx b).add 0) fun du => ldS F ((bx b).add 1) fun dv dw dx => ldS F ((bx b).add 2) fun dy dz dA => K (.agg #[(iv du), (sv dv dw dx), (sv dy dz dA)]) F)))))))))))

def qdr.ann : Ann := (.seq .l (.seq .l (.seq .l (.seq .l (.seq .l (.seq (.seq .l (.two (.seq .l (.seq .l (.seq .l (.seq .l (.seq .l .l))))) .l)) (.seq .l (.seq (.seq .l (.one (.seq .l (.two .l (.seq .l (.two .l (.seq .l (.cut [(91, .bool)] .l (.two .l .l))))))))) (.seq .l .l)))))))))

theorem qdr.con {p : List D.Ins} {A0 aA aB : OA} {c0 aC aD : Nat} {d r : D.Warp} {w : World} (hp : M.qgu p d) (hr : r = M.qdr p d) (u : Row el84 w A0 p) (I : p.length ≤ c0) (Z : Row el91 w aA d.Frames) (a4 : d.Frames.length ≤ aC) (a5 : Row el3 w aB d.Regs) (a6 : d.Regs.length ≤ aD) :
    Cl 200 #[(sv A0 p.length c0), (.agg (wC aA aC aB aD d))] w (fun v_ t => ∃ (bx : OA) (bz : Nat) (bA : OA) (bB : Nat), v_ = (.agg (wC bx bz bA bB r)) ∧ Own el91 t w.heap.size bx bz r.Frames ∧ Own el3 t w.heap.size bA bB r.Regs ∧ Ext w t) := by
 have H := wp.qdr.math p d hp
 refine begK mixed Tryz.f200 ann (vc A0 p.length c0 d.Number aA d.Frames.length aC aB d.Regs.length aD) ?_
 unfold vc
 unfold wp.qdr at H
 refine qaL (fun dc dd L4 g c2 => ?_)
 have b := qa6 (Ext.refl w) c2
 refine qaL (fun c3 de N P5 bD => ?_)
 have g := g.ext bD
 have c := P5
 have N := Nat.le_trans b.size N
 have b := qa6 b bD
 refine ⟨_, (g.a 0), _, _, _, (g.a 1), _, _, _, (g.a 2), ?_⟩
 obtain ⟨c4, H⟩ := H
 obtain ⟨m, c5, H⟩ := qaa H
 refine (qcd.con c4 c5 (Z.ext b) a4 (a5.ext b) a6).mono ?_
 rintro _ df ⟨a7, a8, aE, aF, rfl, v, P7, aG⟩
 have c6 := v.qap g.lt
 have a0 := v.qap c.lt
 have g := g.ext aG
 have c := c.ext aG
 have f := v.mono b.size
 have k := P7.mono b.size
 have b := qa6 b aG
 refine ⟨m.Number, trivial, a7, m.Frames.length, a8, trivial, aE, m.Regs.length, aF, trivial, rfl, ?_⟩
 refine qaL (fun c7 dg x P8 a9 => ?_)
 have bE := g.ne x
 have aH := c.ne x
 have s := f.qaD x
 have bF := k.qaD x
 have g := g.ext a9
 have c := c.ext a9
 have f := f.ext a9
 have k := k.ext a9
 have e := P8
 have x := Nat.le_trans b.size x
 have b := qa6 b a9
 refine stB e 0 (wC a7 a8 aE aF m) (fun dh P8 aa => ?_)
 have O := g.chg aa bE
 have y := c.chg aa aH
 have z := f.chg aa s
 have E := k.chg aa bF
 have g := O
 have c := y
 have f := z
 have k := E
 have b := echg b aa x
 have e := P8
 refine ⟨_, _, _, (g.a 1), _, _, _, (g.a 1), ?_⟩
 obtain ⟨⟨bG, bH⟩, H⟩ := H
 obtain ⟨c8, c9, aI⟩ := Row.at (Z.ext b) bG bH
 refine ⟨bG, bH, c8, c9, _, (aI 0 _ rfl), _, (aI 1 _ rfl), _, (aI 2 _ rfl), ?_⟩
 refine qaL (fun di dj J P9 a1 => ?_)
 have ca := g.ne J
 have cb := c.ne J
 have aJ := f.qaD J
 have cc := k.qaD J
 have bI := e.ne J
 have g := g.ext a1
 have c := c.ext a1
 have f := f.ext a1
 have k := k.ext a1
 have e := e.ext a1
 have n := P9
 have J := Nat.le_trans b.size J
 have b := qa6 b a1
 refine qda n (o := 0) (cs' := #[(iv ((rd d.Frames (wrap .i64 ((d.Frames.length : Int) - 1))).Pc)), (iv ((rd d.Frames (wrap .i64 ((d.Frames.length : Int) - 1))).Stop)), (iv ((rd d.Frames (wrap .i64 ((d.Frames.length : Int) - 1))).Mask))]) rfl rfl (Nat.le_of_ble_eq_true rfl) rfl (fun dk n a2 => ?_)
 have O := g.chg a2 ca
 have y := c.chg a2 cb
 have z := f.chg a2 aJ
 have E := k.chg a2 cc
 have q := e.chg a2 bI
 have g := O
 have c := y
 have f := z
 have k := E
 have e := q
 have b := echg b a2 J
 refine ⟨_, (n.a 0), ?_⟩
 obtain ⟨⟨bJ, bK⟩, H⟩ := H
 obtain ⟨cd, ce, aj⟩ := Row.at (u.ext b) bJ bK
 refine ⟨bJ, bK, cd, ce, _, (aj 0 _ rfl), _, (aj 1 _ rfl), _, (aj 2 _ rfl), _, (aj 3 _ rfl), ?_⟩
 refine qaL (fun cf dl F cg P => ?_)
 have ch := g.ne F
 have ci := c.ne F
 have aK := f.qaD F
 have cj := k.qaD F
 have bL := e.ne F
 have ck := n.ne F
 have g := g.ext P
 have c := c.ext P
 have f := f.ext P
 have k := k.ext P
 have e := e.ext P
 have n := n.ext P
 have i := cg
 have F := Nat.le_trans b.size F
 have b := qa6 b P
 refine qda i (o := 0) (cs' := #[(iv ((rd p ((rd d.Frames (wrap .i64 ((d.Frames.length : Int) - 1))).Pc)).Op)), (iv ((rd p ((rd d.Frames (wrap .i64 ((d.Frames.length : Int) - 1))).Pc)).A)), (iv ((rd p ((rd d.Frames (wrap .i64 ((d.Frames.length : Int) - 1))).Pc)).B)), (iv ((rd p ((rd d.Frames (wrap .i64 ((d.Frames.length : Int) - 1))).Pc)).C))]) rfl rfl (Nat.le_of_ble_eq_true rfl) rfl (fun dm i Q => ?_)
 have O := g.chg Q ch
 have y := c.chg Q ci
 have z := f.chg Q aK
 have E := k.chg Q cj
 have q := e.chg Q bL
 have ab := n.chg Q ck
 have g := O
 have b := echg b Q F
 refine ⟨_, (g.a 0), _, _, _, (g.a 1), _, _, _, (g.a 2), ?_⟩
 obtain ⟨cl, H⟩ := H
 obtain ⟨cm, cn, H⟩ := qaa H
 refine (qbl.con cl cn (u.ext b) I (Z.ext b) a4 (a5.ext b) a6).mono ?_
 rintro _ dn ⟨rfl, K⟩
 have g := g.ext K
 have c := y.ext K
 have f := z.ext K
 have k := E.ext K
 have e := q.ext K
 have n := ab.ext K
 have i := i.ext K
 have b := qa6 b K
 refine ⟨cm, rfl, ?_⟩
 apply brc H<;>intro h H
 ·refine ⟨_, (g.a 0), _, _, _, (g.a 1), _, _, _, (g.a 2), _, (i.a 1), ?_⟩
  obtain ⟨co, H⟩ := H
  obtain ⟨ac, cp, H⟩ := qaa H
  refine (qaU.con co cp (Z.ext b) a4 (a5.ext b) a6).mono ?_
  rintro _ w64 ⟨rfl, R⟩
  have n := n.ext R
  have b := qa6 b R
  refine ⟨ac, rfl, _, (n.a 0), ?_⟩
  obtain ⟨cq, H⟩ := H
  obtain ⟨S, cr, H⟩ := qaa H
  refine (qcD.con cq cr (u.ext b) I).mono ?_
  rintro _ dp ⟨rfl, T⟩
  have c := (c.ext R).ext T
  have f := (f.ext R).ext T
  have k := (k.ext R).ext T
  have e := (e.ext R).ext T
  have n := n.ext T
  have i := (i.ext R).ext T
  have b := qa6 b T
  refine ⟨S, rfl, _, _, _, (e.a 1), ?_⟩
  obtain ⟨⟨aL, aM⟩, H⟩ := H
  obtain ⟨cs, U, dq⟩ := Row.at f.row aL aM
  refine ⟨aL, aM, cs, U, ?_⟩
  refine Own.stA f U aL aM 0 (⟨S, (rd m.Frames (wrap .i64 ((d.Frames.length : Int) - 1))).Stop, (rd m.Frames (wrap .i64 ((d.Frames.length : Int) - 1))).Mask⟩ : D.Frame) (fun dr v a3 ct => ?_)
  have y := c.chg a3 (fun j => (a0) _ U j.symm)
  have E := k.chg a3 (((Own.qai k f (by decide))).left U)
  have q := e.chg a3 (fun j => (s) _ U j.symm)
  have ab := n.chg a3 (fun j => (aJ) _ U j.symm)
  have aO := i.chg a3 (fun j => (aK) _ U j.symm)
  have e := q
  have n := ab
  have i := aO
  have b := echg b a3 ct
  refine ⟨_, _, _, (e.a 1), _, (n.a 0), _, (n.a 2), _, (i.a 2), ?_⟩
  refine qaz el91 ([(⟨(wrap .i64 ((rd d.Frames (wrap .i64 ((d.Frames.length : Int) - 1))).Pc + 1)), S, (wrap .i64 ((rd d.Frames (wrap .i64 ((d.Frames.length : Int) - 1))).Mask - ac))⟩ : D.Frame), (⟨(rd p ((rd d.Frames (wrap .i64 ((d.Frames.length : Int) - 1))).Pc)).B, S, ac⟩ : D.Frame)] : List D.Frame) (fun _ => by kernel_rfl) rfl (fun ds dt cu ad => ?_)
  have f := v.ext ad
  have k := E.ext ad
  have e := e.ext ad
  have cv := cu.mono b.size
  have b := qa6 b ad
  obtain ⟨cw, H⟩ := H
  refine appO qla f cv.row b.size cw (fun cx cy du v ae => ?_)
  have k := k.app ae (Own.qai k f (by decide))
  have cz := Apart.app s ae e.lt
  have e := e.app ae s
  have s := cz
  have b := eapp b ae f
  have f := v
  refine qda e (o := 1) (cs' := #[(iv m.Number), (sv cx ((((List.set m.Frames ((wrap .i64 ((d.Frames.length : Int) - 1)).toNat) (⟨S, (rd m.Frames (wrap .i64 ((d.Frames.length : Int) - 1))).Stop, (rd m.Frames (wrap .i64 ((d.Frames.length : Int) - 1))).Mask⟩ : D.Frame)) ++ ([(⟨(wrap .i64 ((rd d.Frames (wrap .i64 ((d.Frames.length : Int) - 1))).Pc + 1)), S, (wrap .i64 ((rd d.Frames (wrap .i64 ((d.Frames.length : Int) - 1))).Mask - ac))⟩ : D.Frame), (⟨(rd p ((rd d.Frames (wrap .i64 ((d.Frames.length : Int) - 1))).Pc)).B, S, ac⟩ : D.Frame)] : List D.Frame))).length) cy), (sv aE m.Regs.length aF)]) rfl rfl (Nat.le_of_ble_eq_true rfl) rfl (fun dv e ak => ?_)
  have c := ((y.ext ad).app ae a0).chg ak aH
  have z := f.chg ak s
  have E := k.chg ak bF
  have f := z
  have k := E
  have b := echg b ak x
  refine ⟨_, (e.a 0), _, _, _, (e.a 1), _, _, _, (e.a 2), ?_⟩
  obtain ⟨cA, H⟩ := H
  obtain ⟨al, cB, H⟩ := qaa H
  refine (qaM.con cA cB (u.ext b) I f.row f.le k.row k.le).mono ?_
  rintro _ dw ⟨aP, aQ, aR, aS, rfl, bM, bN, bO⟩
  have cC := bM.qap c.lt
  have cD := bN.qap c.lt
  have c := c.ext bO
  have aT := bM.mono b.size
  have aU := bN.mono b.size
  have b := qa6 b bO
  refine ⟨al.Number, trivial, aP, al.Frames.length, aQ, trivial, aR, al.Regs.length, aS, trivial, rfl, ?_⟩
  refine qda c (o := 0) (cs' := (wC aP aQ aR aS al)) rfl rfl (Nat.le_of_ble_eq_true rfl) rfl (fun dx c aV => ?_)
  have aT := aT.chg aV cC
  have aU := aU.chg aV cD
  have b := echg b aV N
  refine ⟨_, (c.a 0), _, _, _, (c.a 1), _, _, _, (c.a 2), ?_⟩
  cases hr.trans H.symm
  exact ⟨aP, aQ, aR, aS, rfl, aT, aU, b⟩
 refine ⟨_, (g.a 0), _, _, _, (g.a 1), _, _, _, (g.a 2), ?_⟩
 obtain ⟨cE, H⟩ := H
 obtain ⟨am, cF, H⟩ := qaa H
 refine (qd5.con cE cF (u.ext b) I (Z.ext b) a4 (a5.ext b) a6).mono ?_
 rintro _ dy ⟨an, ao, rfl, aW, V⟩
 have ap := aN f aW
 have cG := aW.qap e.lt
 have g := g.ext V
 have c := c.ext V
 have f := f.ext V
 have e := e.ext V
 have n := n.ext V
 have i := i.ext V
 have l := aW.mono b.size
 have b := qa6 b V
 refine ⟨an, am.length, ao, rfl, ?_⟩
 refine qda e (o := 2) (cs' := #[(iv m.Number), (sv a7 m.Frames.length a8), (sv an am.length ao)]) rfl rfl (Nat.le_of_ble_eq_true rfl) rfl (fun dz e W => ?_)
 have O := g.chg W bE
 have y := c.chg W aH
 have z := f.chg W s
 have ab := n.chg W (bI).symm
 have aO := i.chg W (bL).symm
 have G := l.chg W cG
 have g := O
 have c := y
 have f := z
 have n := ab
 have i := aO
 have l := G
 have b := echg b W x
 refine ⟨_, (i.a 0), ?_⟩
 apply brc H<;>intro h H
 ·refine ⟨_, _, _, (e.a 1), ?_⟩
  obtain ⟨⟨aX, aY⟩, H⟩ := H
  obtain ⟨cH, af, dA⟩ := Row.at f.row aX aY
  refine ⟨aX, aY, cH, af, ?_⟩
  refine Own.stA f af aX aY 0 (⟨(p.length : Int), (rd m.Frames (wrap .i64 ((d.Frames.length : Int) - 1))).Stop, (rd m.Frames (wrap .i64 ((d.Frames.length : Int) - 1))).Mask⟩ : D.Frame) (fun dB f aq cI => ?_)
  have c := c.chg aq (fun j => (a0) _ af j.symm)
  have q := e.chg aq (fun j => (s) _ af j.symm)
  have G := l.chg aq (((ap).symm).left af)
  have e := q
  have l := G
  have b := echg b aq cI
  refine ⟨_, (e.a 0), _, _, _, (e.a 1), _, _, _, (e.a 2), ?_⟩
  obtain ⟨cJ, H⟩ := H
  obtain ⟨ar, cK, H⟩ := qaa H
  refine (cllA (qaM.con cJ cK (u.ext b) I f.row f.le l.row l.le)).mono ?_
  rintro _ dC ⟨aZ, b0, b1, b2, rfl, bP, bQ, bR⟩
  have cL := bP.qap c.lt
  have cM := bQ.qap c.lt
  have c := c.ext bR
  have b3 := bP.mono b.size
  have b4 := bQ.mono b.size
  have b := qa6 b bR
  refine ⟨ar.Number, trivial, aZ, ar.Frames.length, b0, trivial, b1, ar.Regs.length, b2, trivial, rfl, ?_⟩
  refine qda c (o := 0) (cs' := (wC aZ b0 b1 b2 ar)) rfl rfl (Nat.le_of_ble_eq_true rfl) rfl (fun dD c b5 => ?_)
  have b3 := b3.chg b5 cL
  have b4 := b4.chg b5 cM
  have b := echg b b5 N
  refine ⟨_, (c.a 0), _, _, _, (c.a 1), _, _, _, (c.a 2), ?_⟩
  cases hr.trans H.symm
  exact ⟨aZ, b0, b1, b2, rfl, b3, b4, b⟩
 apply brc H<;>intro h H
 ·refine ⟨_, _, _, (e.a 1), _, (i.a 2), ?_⟩
  obtain ⟨⟨b6, b7⟩, H⟩ := H
  obtain ⟨cN, ag, dE⟩ := Row.at f.row b6 b7
  refine ⟨b6, b7, cN, ag, ?_⟩
  refine Own.stA f ag b6 b7 0 (⟨(rd p ((rd d.Frames (wrap .i64 ((d.Frames.length : Int) - 1))).Pc)).B, (rd m.Frames (wrap .i64 ((d.Frames.length : Int) - 1))).Stop, (rd m.Frames (wrap .i64 ((d.Frames.length : Int) - 1))).Mask⟩ : D.Frame) (fun dF f au cO => ?_)
  have c := c.chg au (fun j => (a0) _ ag j.symm)
  have q := e.chg au (fun j => (s) _ ag j.symm)
  have G := l.chg au (((ap).symm).left ag)
  have e := q
  have l := G
  have b := echg b au cO
  refine ⟨_, (e.a 0), _, _, _, (e.a 1), _, _, _, (e.a 2), ?_⟩
  obtain ⟨cP, H⟩ := H
  obtain ⟨av, cQ, H⟩ := qaa H
  refine (cllA (qaM.con cP cQ (u.ext b) I f.row f.le l.row l.le)).mono ?_
  rintro _ dG ⟨b8, b9, ba, bb, rfl, bS, bT, bU⟩
  have cR := bS.qap c.lt
  have cS := bT.qap c.lt
  have c := c.ext bU
  have bc := bS.mono b.size
  have bd := bT.mono b.size
  have b := qa6 b bU
  refine ⟨av.Number, trivial, b8, av.Frames.length, b9, trivial, ba, av.Regs.length, bb, trivial, rfl, ?_⟩
  refine qda c (o := 0) (cs' := (wC b8 b9 ba bb av)) rfl rfl (Nat.le_of_ble_eq_true rfl) rfl (fun dH c be => ?_)
  have bc := bc.chg be cR
  have bd := bd.chg be cS
  have b := echg b be N
  refine ⟨_, (c.a 0), _, _, _, (c.a 1), _, _, _, (c.a 2), ?_⟩
  cases hr.trans H.symm
  exact ⟨b8, b9, ba, bb, rfl, bc, bd, b⟩
 refine ⟨_, _, _, (e.a 1), _, (n.a 0), ?_⟩
 obtain ⟨⟨bf, bg⟩, H⟩ := H
 obtain ⟨cT, L, dI⟩ := Row.at f.row bf bg
 refine ⟨bf, bg, cT, L, ?_⟩
 refine Own.stA f L bf bg 0 (⟨(wrap .i64 ((rd d.Frames (wrap .i64 ((d.Frames.length : Int) - 1))).Pc + 1)), (rd m.Frames (wrap .i64 ((d.Frames.length : Int) - 1))).Stop, (rd m.Frames (wrap .i64 ((d.Frames.length : Int) - 1))).Mask⟩ : D.Frame) (fun cU v X cV => ?_)
 have g := g.chg X (fun j => (c6) _ L j.symm)
 have c := c.chg X (fun j => (a0) _ L j.symm)
 have q := e.chg X (fun j => (s) _ L j.symm)
 have n := n.chg X (fun j => (aJ) _ L j.symm)
 have i := i.chg X (fun j => (aK) _ L j.symm)
 have G := l.chg X (((ap).symm).left L)
 have e := q
 have l := G
 have b := echg b X cV
 have f := v
 obtain ⟨cW, cX, H⟩ := qd9 H
 refine ⟨fun z_ t => ∃ (bh : Bool), z_ = (bh, ()) ∧ cW (bh, ()) ∧ Ext w t ∧ Blk t c3 52 #[(iv 0), (sv none 0 0), (sv none 0 0)] ∧ Own el91 t w.heap.size a7 a8 (List.set m.Frames ((wrap .i64 ((d.Frames.length : Int) - 1)).toNat) (⟨(wrap .i64 ((rd d.Frames (wrap .i64 ((d.Frames.length : Int) - 1))).Pc + 1)), (rd m.Frames (wrap .i64 ((d.Frames.length : Int) - 1))).Stop, (rd m.Frames (wrap .i64 ((d.Frames.length : Int) - 1))).Mask⟩ : D.Frame)) ∧ Blk t c7 52 #[(iv m.Number), (sv a7 m.Frames.length a8), (sv an am.length ao)] ∧ Blk t cf 84 #[(iv ((rd p ((rd d.Frames (wrap .i64 ((d.Frames.length : Int) - 1))).Pc)).Op)), (iv ((rd p ((rd d.Frames (wrap .i64 ((d.Frames.length : Int) - 1))).Pc)).A)), (iv ((rd p ((rd d.Frames (wrap .i64 ((d.Frames.length : Int) - 1))).Pc)).B)), (iv ((rd p ((rd d.Frames (wrap .i64 ((d.Frames.length : Int) - 1))).Pc)).C))] ∧ Own el3 t w.heap.size an ao am, ?_, ?_⟩
 ·refine ⟨(fun _ => False), _, noM (i.a 0), ?_⟩
  apply brc H<;>intro h H
  ·refine ⟨_, noM (g.a 0), _, _, _, noM (g.a 1), _, _, _, noM (g.a 2), _, noM (i.a 1), _, noM (n.a 2), ?_⟩
   have c := c.ext (Ext.drew _)
   have f := f.ext (Ext.drew _)
   have e := e.ext (Ext.drew _)
   have i := i.ext (Ext.drew _)
   have l := l.ext (Ext.drew _)
   have b := qa6 b (Ext.drew _)
   have bi := (Chg.refl (fun _ => False) cU).then (Ext.drew _)
   obtain ⟨cY, H⟩ := H
   obtain ⟨cZ, d0, H⟩ := qaa H
   refine (qaU.con cY d0 (Z.ext b) a4 (a5.ext b) a6).mono ?_
   rintro _ dJ ⟨rfl, Y⟩
   have c := c.ext Y
   have f := f.ext Y
   have e := e.ext Y
   have i := i.ext Y
   have l := l.ext Y
   have b := qa6 b Y
   have bi := bi.then Y
   refine ⟨cZ, rfl, qaw bi, ?_⟩
   exact ⟨_, rfl, H, b, c, f, (by first | exact e | (simp only [bC, wC, List.length_set]; exact e)), i, l⟩
  have c := c.ext (Ext.drew _)
  have f := f.ext (Ext.drew _)
  have e := e.ext (Ext.drew _)
  have i := i.ext (Ext.drew _)
  have l := l.ext (Ext.drew _)
  have b := qa6 b (Ext.drew _)
  exact ⟨_, rfl, H, b, c, f, (by first | exact e | (simp only [bC, wC, List.length_set]; exact e)), i, l⟩
 rintro _ dK ⟨bh, rfl, H, b, c, f, e, i, l⟩
 have H := cX _ H
 try dsimp only at H ⊢
 apply brc H<;>intro h H
 ·refine ⟨_, _, _, (e.a 1), _, (i.a 2), ?_⟩
  obtain ⟨⟨aw, ah⟩, H⟩ := H
  obtain ⟨d1, ai, dL⟩ := Row.at f.row aw ah
  refine ⟨aw, (by first | exact ah | omega | (simp at ah ⊢; omega)), d1, ai, ?_⟩
  have d2 := qol aw ah
  refine Own.storeAt f ai aw ah 0 [(iv ((rd p ((rd d.Frames (wrap .i64 ((d.Frames.length : Int) - 1))).Pc)).B))] (⟨(rd p ((rd d.Frames (wrap .i64 ((d.Frames.length : Int) - 1))).Pc)).B, (rd m.Frames (wrap .i64 ((d.Frames.length : Int) - 1))).Stop, (rd m.Frames (wrap .i64 ((d.Frames.length : Int) - 1))).Mask⟩ : D.Frame) (by rw [d2]; rfl) (Nat.le_of_ble_eq_true rfl) rfl (fun dM f ax d3 => ?_)
  rw [List.set_set] at f
  have c := c.chg ax (fun j => (a0) _ ai j.symm)
  have q := e.chg ax (fun j => (s) _ ai j.symm)
  have G := l.chg ax (((ap).symm).left ai)
  have e := q
  have l := G
  have b := echg b ax d3
  refine ⟨_, (e.a 0), _, _, _, (e.a 1), _, _, _, (e.a 2), ?_⟩
  obtain ⟨d4, H⟩ := H
  obtain ⟨ay, d5, H⟩ := qaa H
  refine (cllA (qaM.con d4 d5 (u.ext b) I f.row f.le l.row l.le)).mono ?_
  rintro _ dN ⟨bj, bk, bl, bm, rfl, bV, bW, bX⟩
  have d6 := bV.qap c.lt
  have d7 := bW.qap c.lt
  have c := c.ext bX
  have bn := bV.mono b.size
  have bo := bW.mono b.size
  have b := qa6 b bX
  refine ⟨ay.Number, trivial, bj, ay.Frames.length, bk, trivial, bl, ay.Regs.length, bm, trivial, rfl, ?_⟩
  refine qda c (o := 0) (cs' := (wC bj bk bl bm ay)) rfl rfl (Nat.le_of_ble_eq_true rfl) rfl (fun dO c bp => ?_)
  have bn := bn.chg bp d6
  have bo := bo.chg bp d7
  have b := echg b bp N
  refine ⟨_, (c.a 0), _, _, _, (c.a 1), _, _, _, (c.a 2), ?_⟩
  cases hr.trans H.symm
  exact ⟨bj, bk, bl, bm, rfl, bn, bo, b⟩
 refine ⟨_, (e.a 0), _, _, _, (e.a 1), _, _, _, (e.a 2), ?_⟩
 obtain ⟨d8, H⟩ := H
 obtain ⟨az, d9, H⟩ := qaa H
 refine (cllA (qaM.con d8 d9 (u.ext b) I f.row f.le l.row l.le)).mono ?_
 rintro _ dP ⟨bq, br, bs, bt, rfl, bY, bZ, c1⟩
 have da := bY.qap c.lt
 have db := bZ.qap c.lt
 have c := c.ext c1
 have bu := bY.mono b.size
 have bv := bZ.mono b.size
 have b := qa6 b c1
 refine ⟨az.Number, trivial, bq, az.Frames.length, br, trivial, bs, az.Regs.length, bt, trivial, rfl, ?_⟩
 refine qda c (o := 0) (cs' := (wC bq br bs bt az)) rfl rfl (Nat.le_of_ble_eq_true rfl) rfl (fun dQ c bw => ?_)
 have bu := bu.chg bw da
 have bv := bv.chg bw db
 have b := echg b bw N
 refine ⟨_, (c.a 0), _, _, _, (c.a 1), _, _, _, (c.a 2), ?_⟩
 cases hr.trans H.symm
 exact ⟨bq, br, bs, bt, rfl, bu, bv, b⟩
def qaT.vc (a : Addr) (i : OA) (j Z : Nat) (w : World) (K : VK) : Prop :=
  ldS w ((a.add 1).add 0) fun an a0 ao => qa1 (decide ((wrap .i64 (((a0 : Nat) : Int) + 2)) > 24)) (K (.bool false) w) (ldS w ((a.add 1).add 0) fun a1 a2 ap => ldS w ((a.add 1).add 0) fun aq g ar => (idx (wrap .i64 (((g : Nat) : Int) - 1)) a2 a1 fun k => ∃ (b : Int), w.drew.cell? (((k.add (((wrap .i64 (((g : Nat) : Int) - 1)).toNat) * 3)).add 0).add 0) = some (iv b) ∧ ∃ (h : Int), w.drew.cell? (((k.add (((wrap .i64 (((g : Nat) : Int) - 1)).toNat) * 3)).add 2).add 0) = some (iv h) ∧ (∃ f : Nat → Prop, ∃ (m : Int), (¬ f (a).block ∧ w.drew.drew.cell? (a.add 0) = some (iv m)) ∧ ∃ (n : OA) (o p : Nat), (¬ f (a).block ∧ w.drew.drew.cell? (a.add 1) = some (sv n o p)) ∧ ∃ (q : OA) (r s : Nat), (¬ f (a).block ∧ w.drew.drew.cell? (a.add 2) = some (sv q r s)) ∧ (idx b j i fun t => ∃ (u : Int), (¬ f (((t.add ((b.toNat) * 4)).add 1)).block ∧ w.drew.drew.cell? (((t.add ((b.toNat) * 4)).add 1).add 0) = some (iv u)) ∧ Cl 166 #[(.agg #[(iv m), (sv n o p), (sv q r s)]), (iv u)] w.drew.drew.drew fun a3 v => (∃ (d : Int), a3 = (iv d) ∧ qab f w.drew.drew v ∧ Cl 151 #[(sv i j Z), (iv b)] v fun a4 a5 => (∃ (c : Int), a4 = (iv c) ∧ qa5 ((k.add (((wrap .i64 (((g : Nat) : Int) - 1)).toNat) * 3)).add 0) [(iv c)] 0 a5 fun e => (idx b j i fun x => ((∃ (y : OA) (z A : Nat), e.drew.cell? ((a.add 1).add 0) = some (sv y z A) ∧ ((∃ (B : Int), e.drew.cell? (((x.add ((b.toNat) * 4)).add 2).add 0) = some (iv B) ∧ ((Run Tryz.prog (Instr.buildSlice 50 2 #[(0, (.agg #[(iv (wrap .i64 (b + 1))), (iv c), (iv (qf3 .i64 h d))])), (1, (.agg #[(iv B), (iv c), (iv d)]))]) e.drew fun a6 a7 => ∃ (C : OA) (D E : Nat), a6 = .slice C D E ∧ ((Run Tryz.prog (Builtin.append_ #[50, 50] 50 #[(sv y z A), (sv C D E)]) a7 fun a8 a9 => ∃ (F : OA) (G H : Nat), a8 = .slice F G H ∧ ((qa5 (a.add 1) [(sv F G H)] 0 a9 fun aa => K (.bool true) aa) ∧ True)) ∧ True)) ∧ True)) ∧ True)) ∧ (∃ (l : Int), e.drew.cell? (((x.add ((b.toNat) * 4)).add 2).add 0) = some (iv l) ∧ ((∃ (I : OA) (J L : Nat), e.drew.cell? ((a.add 1).add 0) = some (sv I J L) ∧ ((Run Tryz.prog (Instr.buildSlice 50 2 #[(0, (.agg #[(iv (wrap .i64 (b + 1))), (iv c), (iv (qf3 .i64 h d))])), (1, (.agg #[(iv l), (iv c), (iv d)]))]) e.drew fun ab ac => ∃ (M : OA) (N O : Nat), ab = .slice M N O ∧ ((Run Tryz.prog (Builtin.append_ #[50, 50] 50 #[(sv I J L), (sv M N O)]) ac fun ad ae => ∃ (P : OA) (Q R : Nat), ad = .slice P Q R ∧ ((qa5 (a.add 1) [(sv P Q R)] 0 ae fun af => K (.bool true) af) ∧ True)) ∧ True)) ∧ True)) ∧ (Run Tryz.prog (Instr.buildSlice 50 2 #[(0, (.agg #[(iv (wrap .i64 (b + 1))), (iv c), (iv (qf3 .i64 h d))])), (1, (.agg #[(iv l), (iv c), (iv d)]))]) e.drew fun ag S => ∃ (T : OA) (U V : Nat), ag = .slice T U V ∧ ((ldS S ((a.add 1).add 0) fun ah ai aj => ((Run Tryz.prog (Builtin.append_ #[50, 50] 50 #[(sv ah ai aj), (sv T U V)]) S fun ak al => ∃ (W : OA) (X Y : Nat), ak = .slice W X Y ∧ ((qa5 (a.add 1) [(sv W X Y)] 0 al fun am => K (.bool true) am) ∧ True)) ∧ True)) ∧ True)) ∧ True)) ∧ True))))))))

def qaT.ann : Ann := (.seq .l (.seq (.seq .l (.two (.seq .l .l) .l)) (.seq .l (.seq .l (.seq .l (.seq .l (.seq .l (.seq .each (.seq .l .l)))))))))

theorem qaT.con {c : D.Warp} {p L t C N : Nat} {n q E : OA} {X : Array Value} {l : List D.Ins} {r : Bool × D.Warp} {w : World} (hp : M.qeJ c l) (F : r = M.qaT c l) (d : Plc w p C 52 X (wC n L q t c)) (f : Own el91 w 0 n L c.Frames) (ah : Row el3 w q c.Regs) (ai : c.Regs.length ≤ t) (O : Row el84 w E l) (aj : l.length ≤ N) (ak : c.Regs ≠ [] → ∀ g, InB q g → ¬ (fun o => InB n o ∨ o = p) g) (P : l ≠ [] → ∀ g, InB E g → ¬ (fun o => InB n o ∨ o = p) g) :
    Cl 171 #[(.pointer (some (⟨p, C, none⟩ : Addr))), (sv E l.length N)] w (fun v_ Q => ∃ (R : OA) (Y : Nat), v_ = (.bool r.1) ∧ Plc Q p C 52 X (wC R Y q t r.2) ∧ Own el91 Q 0 R Y r.2.Frames ∧ Mov w n R ∧ r.2.Regs = c.Regs ∧ Chg (fun o => InB n o ∨ o = p) w Q) := by
 have H := wp.qaT.math c l hp
 have e := Chg.refl (fun o => InB n o ∨ o = p) w
 refine begK mixed Tryz.f171 ann (vc (⟨p, C, none⟩ : Addr) E l.length N) ?_
 unfold vc
 unfold wp.qaT at H
 refine ⟨_, _, _, (d.a 1), ?_⟩
 apply brc H<;>intro h H
 ·cases F.trans H.symm
  exact ⟨n, L, rfl, d, (f.mono (Nat.zero_le _)), (Mov.same _ _), rfl, e⟩
 refine ⟨_, _, _, (d.a 1), _, _, _, (d.a 1), ?_⟩
 obtain ⟨⟨v, s⟩, H⟩ := H
 obtain ⟨al, u, aJ⟩ := Row.at f.row v s
 refine ⟨v, s, al, u, ?_⟩
 have f := f.ext (Ext.drew _)
 have am := Row.re f.row u v (by first | exact s | omega | (simp at s ⊢; omega))
 refine ⟨_, (am 0 _ rfl), ?_⟩
 have an := Row.re f.row u v (by first | exact s | omega | (simp at s ⊢; omega))
 refine ⟨_, (an 2 _ rfl), ?_⟩
 have d := (d.ext (Ext.drew _)).ext (Ext.drew _)
 have e := (e.then (Ext.drew _)).then (Ext.drew _)
 refine ⟨(fun _ => False), _, noM (d.a 0), _, _, _, noM (d.a 1), _, _, _, noM (d.a 2), ?_⟩
 obtain ⟨⟨Z, a0⟩, H⟩ := H
 obtain ⟨ao, ap, aq⟩ := Row.at (O.chgS e P) Z a0
 refine ⟨Z, a0, ao, ap, _, ⟨(fun k => k), (aq 1 _ rfl)⟩, ?_⟩
 have d := d.ext (Ext.drew _)
 have f := (f.ext (Ext.drew _)).ext (Ext.drew _)
 have e := e.then (Ext.drew _)
 have S := (Chg.refl (fun _ => False) w.drew.drew).then (Ext.drew _)
 obtain ⟨ar, H⟩ := H
 obtain ⟨m, au, H⟩ := qaa H
 refine (qaS.con ar au f.row f.le (ah.chgS e ak) ai).mono ?_
 rintro _ aK ⟨rfl, G⟩
 have e := e.then G
 have S := S.then G
 refine ⟨m, rfl, qaw S, ?_⟩
 obtain ⟨av, H⟩ := H
 obtain ⟨i, aw, H⟩ := qaa H
 refine (qdn.con av aw (O.chgS e P) aj).mono ?_
 rintro _ aL ⟨rfl, T⟩
 have d := (d.ext G).ext T
 have f := (f.ext G).ext T
 refine ⟨i, rfl, ?_⟩
 refine Own.stA f u v s 0 (⟨i, (rd c.Frames (wrap .i64 ((c.Frames.length : Int) - 1))).Stop, (rd c.Frames (wrap .i64 ((c.Frames.length : Int) - 1))).Mask⟩ : D.Frame) (fun aM P2 a1 aN => ?_)
 have d := d.chg a1 (fun k => ((f.qa3 d.b (by decide))) _ u k.symm)
 have d := d.ext (Ext.drew _)
 have f := P2.ext (Ext.drew _)
 have e := ((e.then T).chgb a1 (Or.inr (Or.inl ⟨_, u, rfl⟩))).then (Ext.drew _)
 obtain ⟨⟨a2, a3⟩, H⟩ := H
 obtain ⟨ax, ay, a4⟩ := Row.at (O.chgS e P) a2 a3
 refine ⟨a2, a3, ax, ay, ?_⟩
 refine And.intro ?_ ?_
 ·have H := H.1
  refine ⟨_, _, _, (d.a 1), ?_⟩
  refine qcn ?_
  refine ⟨_, (a4 2 _ rfl), ?_⟩
  refine qcn ?_
  refine qaz el91 ([(⟨(wrap .i64 ((rd c.Frames (wrap .i64 ((c.Frames.length : Int) - 1))).Pc + 1)), i, (qf3 .i64 ((rd c.Frames (wrap .i64 ((c.Frames.length : Int) - 1))).Mask) m)⟩ : D.Frame), (⟨(rd l ((rd c.Frames (wrap .i64 ((c.Frames.length : Int) - 1))).Pc)).B, i, m⟩ : D.Frame)] : List D.Frame) (fun _ => by kernel_rfl) rfl (fun aO aP P5 U => ?_)
  have d := d.ext U
  have f := f.ext U
  have O5 := P5.mono e.size
  have e := e.then U
  refine qcn ?_
  have x := f
  have a5 := Mov.same w n
  obtain ⟨az, H⟩ := H
  refine qgW qla qla.under x O5.row (Nat.zero_le _) (by first | rfl | omega | (simp; done) | (simp; omega)) (by first | rfl | omega | (simp; done) | (simp; omega)) az (fun a6 a7 aQ P6 I => ?_)
  have aA := Apart.app (x.qa3 d.b (by decide)) I d.lt
  have d := d.app I (x.qa3 d.b (by decide))
  have y := e.size
  have aB := Mov.trans a5 I.blk y
  refine qcn ?_
  refine qnu d (j := 1) (cs' := #[(iv c.Number), (sv a6 ((((List.set c.Frames ((wrap .i64 ((c.Frames.length : Int) - 1)).toNat) (⟨i, (rd c.Frames (wrap .i64 ((c.Frames.length : Int) - 1))).Stop, (rd c.Frames (wrap .i64 ((c.Frames.length : Int) - 1))).Mask⟩ : D.Frame)) ++ ([(⟨(wrap .i64 ((rd c.Frames (wrap .i64 ((c.Frames.length : Int) - 1))).Pc + 1)), i, (qf3 .i64 ((rd c.Frames (wrap .i64 ((c.Frames.length : Int) - 1))).Mask) m)⟩ : D.Frame), (⟨(rd l ((rd c.Frames (wrap .i64 ((c.Frames.length : Int) - 1))).Pc)).B, i, m⟩ : D.Frame)] : List D.Frame))).length) a7), (sv q c.Regs.length t)]) rfl rfl (Nat.le_of_ble_eq_true rfl) rfl (fun aR d a8 => ?_)
  have x := P6.chg a8 aA
  have e := (e.app I (fun g k => (qgK a5 k (fun k => (Or.inl k))))).chgb a8 (Or.inr (Or.inr rfl))
  cases F.trans H.symm
  exact ⟨a6, a7, rfl, d, (x.mono (Nat.zero_le _)), aB, rfl, e⟩
 refine And.intro ?_ ?_
 ·have H := H.2.1
  refine ⟨_, (a4 2 _ rfl), ?_⟩
  refine And.intro ?_ ?_
  ·have H := H.1
   refine ⟨_, _, _, (d.a 1), ?_⟩
   refine qcn ?_
   refine qaz el91 ([(⟨(wrap .i64 ((rd c.Frames (wrap .i64 ((c.Frames.length : Int) - 1))).Pc + 1)), i, (qf3 .i64 ((rd c.Frames (wrap .i64 ((c.Frames.length : Int) - 1))).Mask) m)⟩ : D.Frame), (⟨(rd l ((rd c.Frames (wrap .i64 ((c.Frames.length : Int) - 1))).Pc)).B, i, m⟩ : D.Frame)] : List D.Frame) (fun _ => by kernel_rfl) rfl (fun aS aT P7 V => ?_)
   have d := d.ext V
   have f := f.ext V
   have O7 := P7.mono e.size
   have e := e.then V
   refine qcn ?_
   have z := f
   have a9 := Mov.same w n
   obtain ⟨aC, H⟩ := H
   refine qgW qla qla.under z O7.row (Nat.zero_le _) (by first | rfl | omega | (simp; done) | (simp; omega)) (by first | rfl | omega | (simp; done) | (simp; omega)) aC (fun aa ab aU P8 J => ?_)
   have aD := Apart.app (z.qa3 d.b (by decide)) J d.lt
   have d := d.app J (z.qa3 d.b (by decide))
   have y := e.size
   have aE := Mov.trans a9 J.blk y
   refine qcn ?_
   refine qnu d (j := 1) (cs' := #[(iv c.Number), (sv aa ((((List.set c.Frames ((wrap .i64 ((c.Frames.length : Int) - 1)).toNat) (⟨i, (rd c.Frames (wrap .i64 ((c.Frames.length : Int) - 1))).Stop, (rd c.Frames (wrap .i64 ((c.Frames.length : Int) - 1))).Mask⟩ : D.Frame)) ++ ([(⟨(wrap .i64 ((rd c.Frames (wrap .i64 ((c.Frames.length : Int) - 1))).Pc + 1)), i, (qf3 .i64 ((rd c.Frames (wrap .i64 ((c.Frames.length : Int) - 1))).Mask) m)⟩ : D.Frame), (⟨(rd l ((rd c.Frames (wrap .i64 ((c.Frames.length : Int) - 1))).Pc)).B, i, m⟩ : D.Frame)] : List D.Frame))).length) ab), (sv q c.Regs.length t)]) rfl rfl (Nat.le_of_ble_eq_true rfl) rfl (fun aV d ac => ?_)
   have z := P8.chg ac aD
   have e := (e.app J (fun g k => (qgK a9 k (fun k => (Or.inl k))))).chgb ac (Or.inr (Or.inr rfl))
   cases F.trans H.symm
   exact ⟨aa, ab, rfl, d, (z.mono (Nat.zero_le _)), aE, rfl, e⟩
  refine And.intro ?_ ?_
  ·have H := H.2.1
   refine qaz el91 ([(⟨(wrap .i64 ((rd c.Frames (wrap .i64 ((c.Frames.length : Int) - 1))).Pc + 1)), i, (qf3 .i64 ((rd c.Frames (wrap .i64 ((c.Frames.length : Int) - 1))).Mask) m)⟩ : D.Frame), (⟨(rd l ((rd c.Frames (wrap .i64 ((c.Frames.length : Int) - 1))).Pc)).B, i, m⟩ : D.Frame)] : List D.Frame) (fun _ => by kernel_rfl) rfl (fun aW aX P9 W => ?_)
   have d := d.ext W
   have f := f.ext W
   have O9 := P9.mono e.size
   have e := e.then W
   refine qcn ?_
   refine ⟨_, _, _, (d.a 1), ?_⟩
   refine qcn ?_
   have A := f
   have ad := Mov.same w n
   obtain ⟨aF, H⟩ := H
   refine qgW qla qla.under A O9.row (Nat.zero_le _) (by first | rfl | omega | (simp; done) | (simp; omega)) (by first | rfl | omega | (simp; done) | (simp; omega)) aF (fun ae af aY aG K => ?_)
   have aH := Apart.app (A.qa3 d.b (by decide)) K d.lt
   have d := d.app K (A.qa3 d.b (by decide))
   have y := e.size
   have aI := Mov.trans ad K.blk y
   refine qcn ?_
   refine qnu d (j := 1) (cs' := #[(iv c.Number), (sv ae ((((List.set c.Frames ((wrap .i64 ((c.Frames.length : Int) - 1)).toNat) (⟨i, (rd c.Frames (wrap .i64 ((c.Frames.length : Int) - 1))).Stop, (rd c.Frames (wrap .i64 ((c.Frames.length : Int) - 1))).Mask⟩ : D.Frame)) ++ ([(⟨(wrap .i64 ((rd c.Frames (wrap .i64 ((c.Frames.length : Int) - 1))).Pc + 1)), i, (qf3 .i64 ((rd c.Frames (wrap .i64 ((c.Frames.length : Int) - 1))).Mask) m)⟩ : D.Frame), (⟨(rd l ((rd c.Frames (wrap .i64 ((c.Frames.length : Int) - 1))).Pc)).B, i, m⟩ : D.Frame)] : List D.Frame))).length) af), (sv q c.Regs.length t)]) rfl rfl (Nat.le_of_ble_eq_true rfl) rfl (fun aZ d ag => ?_)
   have A := aG.chg ag aH
   have e := (e.app K (fun g k => (qgK ad k (fun k => (Or.inl k))))).chgb ag (Or.inr (Or.inr rfl))
   cases F.trans H.symm
   exact ⟨ae, af, rfl, d, (A.mono (Nat.zero_le _)), aI, rfl, e⟩
  exact trivial
 exact trivial
def qbc.vc (S T U V W : Int) (c : OA) (d c2 : Nat) (w : World) (K : VK) : Prop :=
  newK w (.cells #[(iv S), (iv T), (iv U), (iv V)] 84) fun b a => ldI a (((bx b).add 0).add 0) fun e => qa1 (e == 1) (ldI a (((bx b).add 1).add 0) fun m => ldI a (((bx b).add 2).add 0) fun X => (idx m d c fun Y => qa5 (Y.add ((m.toNat) * 1)) [(iv X)] 0 a fun Z => K (.tuple #[]) Z)) (qa1 (e == 2) ((∃ k : Nat → Prop, ldIM k a ((bx b).add 1) 0 fun n => ldIM k a ((bx b).add 2) 0 fun o => (idx o d c fun a0 => ldIM k a (a0.add ((o.toNat) * 1)) 0 fun a1 => (idx n d c fun a2 => qa5 (a2.add ((n.toNat) * 1)) [(iv a1)] 0 a.drew fun a3 => K (.tuple #[]) a3)))) (qa1 (e == 3) ((∃ f : Nat → Prop, ldIM f a ((bx b).add 1) 0 fun p => ldIM f a ((bx b).add 2) 0 fun q => (idx q d c fun a4 => ldIM f a (a4.add ((q.toNat) * 1)) 0 fun a5 => ldIM f a ((bx b).add 3) 0 fun r => (idx r d c fun a6 => ldIM f a (a6.add ((r.toNat) * 1)) 0 fun a7 => Cl 173 #[(iv a5), (iv a7)] a.drew fun a8 s => (∃ (t : Int), a8 = (iv t) ∧ qab f a s ∧ (idx p d c fun a9 => qa5 (a9.add ((p.toNat) * 1)) [(iv t)] 0 s fun aa => K (.tuple #[]) aa)))))) (qa1 (e == 4) ((∃ g : Nat → Prop, ldIM g a ((bx b).add 1) 0 fun u => ldIM g a ((bx b).add 2) 0 fun v => (idx v d c fun ab => ldIM g a (ab.add ((v.toNat) * 1)) 0 fun ac => ldIM g a ((bx b).add 3) 0 fun x => (idx x d c fun ad => ldIM g a (ad.add ((x.toNat) * 1)) 0 fun ae => Cl 225 #[(iv ac), (iv ae)] a.drew fun af y => (∃ (z : Int), af = (iv z) ∧ qab g a y ∧ (idx u d c fun ag => qa5 (ag.add ((u.toNat) * 1)) [(iv z)] 0 y fun ah => K (.tuple #[]) ah)))))) (qa1 (e == 5) ((∃ h : Nat → Prop, ldIM h a ((bx b).add 1) 0 fun A => ldIM h a ((bx b).add 2) 0 fun B => (idx B d c fun ai => ldIM h a (ai.add ((B.toNat) * 1)) 0 fun aj => ldIM h a ((bx b).add 3) 0 fun C => (idx C d c fun ak => ldIM h a (ak.add ((C.toNat) * 1)) 0 fun al => Cl 226 #[(iv aj), (iv al)] a.drew fun am D => (∃ (E : Int), am = (iv E) ∧ qab h a D ∧ (idx A d c fun an => qa5 (an.add ((A.toNat) * 1)) [(iv E)] 0 D fun ao => K (.tuple #[]) ao)))))) (qa1 (e == 6) ((∃ j : Nat → Prop, ldIM j a ((bx b).add 1) 0 fun F => ldIM j a ((bx b).add 2) 0 fun G => (idx G d c fun ap => ldIM j a (ap.add ((G.toNat) * 1)) 0 fun aq => ldIM j a ((bx b).add 3) 0 fun H => (idx H d c fun ar => ldIM j a (ar.add ((H.toNat) * 1)) 0 fun au => (idx F d c fun av => qa5 (av.add ((F.toNat) * 1)) [(iv (qgY .i64 aq au))] 0 a.drew fun aw => K (.tuple #[]) aw))))) (qa1 (e == 7) ((∃ i : Nat → Prop, ldIM i a ((bx b).add 1) 0 fun I => ldIM i a ((bx b).add 2) 0 fun J => (idx J d c fun ax => ldIM i a (ax.add ((J.toNat) * 1)) 0 fun ay => ldIM i a ((bx b).add 3) 0 fun L => (idx L d c fun az => ldIM i a (az.add ((L.toNat) * 1)) 0 fun aA => Cl 227 #[(iv ay), (iv aA)] a.drew fun aB M => (∃ (N : Int), aB = (iv N) ∧ qab i a M ∧ (idx I d c fun aC => qa5 (aC.add ((I.toNat) * 1)) [(iv N)] 0 M fun aD => K (.tuple #[]) aD)))))) (qa1 (e == 8) (ldI a (((bx b).add 1).add 0) fun O => (idx O d c fun aE => qa5 (aE.add ((O.toNat) * 1)) [(iv W)] 0 a fun aF => K (.tuple #[]) aF)) (qa1 (e == 9) (ldI a (((bx b).add 3).add 0) fun P => (idx P d c fun aG => ldI a ((aG.add ((P.toNat) * 1)).add 0) fun aH => qa1 (aH != 0) ((∃ l : Nat → Prop, ldIM l a ((bx b).add 1) 0 fun Q => ldIM l a ((bx b).add 2) 0 fun R => (idx R d c fun aI => ldIM l a (aI.add ((R.toNat) * 1)) 0 fun aJ => (idx Q d c fun aK => qa5 (aK.add ((Q.toNat) * 1)) [(iv aJ)] 0 a.drew fun aL => K (.tuple #[]) aL)))) (K (.tuple #[]) a))) (K (.tuple #[]) a)))))))))

def qbc.ann : Ann := (.seq .l (.seq .l (.one (.seq .l (.two .l (.seq .l (.two .l (.seq .l (.two .l (.seq .l (.two .l (.seq .l (.two .l (.seq .l (.two .l (.seq .l (.two .l (.seq .l (.two .l (.seq .l (.two (.seq .l (.two .l .l)) .l)))))))))))))))))))))

theorem qbc.con {j : D.Ins} {n : Int} {k : List Int} {i d p : Nat} {q : OA} {r : (List Int)} {w : World} (hp : M.qgp j n k i d) (m : r = M.qbc j n k i d) (b : Own el3 w 0 q p k) (aP : i ≤ (List.take d k).length) :
    Cl 206 #[(.agg (iC j)), (iv n), (sv (cutA p i q 1) ((List.drop i (List.take d k)).length) (p - i))] w (fun v_ w_ => v_ = (.tuple #[]) ∧ Own el3 w_ 0 q p r ∧ r.length = k.length ∧ Chg (InB q) w w_) := by
 have H := wp.qbc.math j n k i d hp
 refine begK mixed Tryz.f206 ann (vc j.Op j.A j.B j.C n (cutA p i q 1) ((List.drop i (List.take d k)).length) (p - i)) ?_
 unfold vc
 unfold wp.qbc at H
 have e := (b.take d).drop (l := i) aP
 refine qaL (fun ca s L3 f t => ?_)
 have b := b.ext t
 have e := e.ext t
 have c := (Chg.refl (InB q) w).then t
 refine ⟨_, (f.a 0), ?_⟩
 apply brc H<;>intro h H
 ·refine ⟨_, (f.a 1), _, (f.a 2), ?_⟩
  obtain ⟨⟨u, v⟩, H⟩ := H
  obtain ⟨aQ, x, cb⟩ := Row.at e.row u v
  refine ⟨u, v, aQ, x, ?_⟩
  refine Own.qgh (hi := d) b x u v 0 [(iv j.B)] j.B rfl (Nat.le_of_ble_eq_true rfl) rfl (fun cc b ae aR => ?_)
  obtain ⟨cd, aS, aT⟩ := qgN x
  rw [← aT] at ae aR
  have c := c.chgb ae (Or.inr ⟨_, aS, rfl⟩)
  cases m.trans H.symm
  exact ⟨rfl, b, (by first | (simp only [bC, wC, List.length_set]; done) | (simp only [bC, wC, List.length_set, List.length_set]; done) | (simp; done) | (simp; omega) | omega), c⟩
 apply brc H<;>intro h H
 ·refine ⟨(fun _ => False), _, noM (f.a 1), _, noM (f.a 2), ?_⟩
  obtain ⟨⟨af, ag⟩, H⟩ := H
  obtain ⟨aU, aV, aW⟩ := Row.at e.row af ag
  refine ⟨af, ag, aU, aV, _, ⟨(fun g => g), (aW 0 _ rfl)⟩, ?_⟩
  obtain ⟨⟨y, z⟩, H⟩ := H
  obtain ⟨aX, E, ce⟩ := Row.at e.row y z
  refine ⟨y, z, aX, E, ?_⟩
  have b := b.ext (Ext.drew _)
  refine Own.qgh (hi := d) b E y z 0 [(iv (rd (List.drop i (List.take d k)) j.B))] (rd (List.drop i (List.take d k)) j.B) rfl (Nat.le_of_ble_eq_true rfl) rfl (fun cf b ah aY => ?_)
  obtain ⟨cg, aZ, b0⟩ := qgN E
  rw [← b0] at ah aY
  have c := (c.then (Ext.drew _)).chgb ah (Or.inr ⟨_, aZ, rfl⟩)
  cases m.trans H.symm
  exact ⟨rfl, b, (by first | (simp only [bC, wC, List.length_set]; done) | (simp only [bC, wC, List.length_set, List.length_set]; done) | (simp; done) | (simp; omega) | omega), c⟩
 apply brc H<;>intro h H
 ·refine ⟨(fun _ => False), ?_⟩
  have hBz := c
  have o := e
  refine ⟨_, noM (f.a 1), _, noM (f.a 2), ?_⟩
  obtain ⟨⟨ai, aj⟩, H⟩ := H
  obtain ⟨b1, b2, b3⟩ := Row.at e.row ai aj
  refine ⟨ai, aj, b1, b2, _, ⟨(fun g => g), (b3 0 _ rfl)⟩, _, noM (f.a 3), ?_⟩
  obtain ⟨⟨ak, al⟩, H⟩ := H
  obtain ⟨b4, b5, b6⟩ := Row.at e.row ak al
  refine ⟨ak, al, b4, b5, _, ⟨(fun g => g), (b6 0 _ rfl)⟩, ?_⟩
  have b := b.ext (Ext.drew _)
  have c := c.then (Ext.drew _)
  have F := (Chg.refl (fun _ => False) s).then (Ext.drew _)
  obtain ⟨G, b7, H⟩ := qaa H
  refine (qc0.con b7 ).mono ?_
  rintro _ ch ⟨rfl, I⟩
  have b := b.ext I
  have F := F.then I
  refine ⟨G, rfl, qaw F, ?_⟩
  obtain ⟨⟨J, K⟩, H⟩ := H
  obtain ⟨b8, L, ci⟩ := Row.at o.row J K
  refine ⟨J, K, b8, L, ?_⟩
  refine Own.qgh (hi := d) b L J K 0 [(iv G)] G rfl (Nat.le_of_ble_eq_true rfl) rfl (fun cj b am b9 => ?_)
  obtain ⟨ck, ba, bb⟩ := qgN L
  rw [← bb] at am b9
  have c := (c.then I).chgb am (Or.inr ⟨_, ba, rfl⟩)
  cases m.trans H.symm
  exact ⟨rfl, b, (by first | (simp only [bC, wC, List.length_set]; done) | (simp only [bC, wC, List.length_set, List.length_set]; done) | (simp; done) | (simp; omega) | omega), c⟩
 apply brc H<;>intro h H
 ·refine ⟨(fun _ => False), ?_⟩
  have hBz := c
  have o := e
  refine ⟨_, noM (f.a 1), _, noM (f.a 2), ?_⟩
  obtain ⟨⟨an, ao⟩, H⟩ := H
  obtain ⟨bc, bd, be⟩ := Row.at e.row an ao
  refine ⟨an, ao, bc, bd, _, ⟨(fun g => g), (be 0 _ rfl)⟩, _, noM (f.a 3), ?_⟩
  obtain ⟨⟨ap, aq⟩, H⟩ := H
  obtain ⟨bf, bg, bh⟩ := Row.at e.row ap aq
  refine ⟨ap, aq, bf, bg, _, ⟨(fun g => g), (bh 0 _ rfl)⟩, ?_⟩
  have b := b.ext (Ext.drew _)
  have c := c.then (Ext.drew _)
  have N := (Chg.refl (fun _ => False) s).then (Ext.drew _)
  obtain ⟨O, bi, H⟩ := qaa H
  refine (qcv.con bi ).mono ?_
  rintro _ cl ⟨rfl, P⟩
  have b := b.ext P
  have N := N.then P
  refine ⟨O, rfl, qaw N, ?_⟩
  obtain ⟨⟨Q, R⟩, H⟩ := H
  obtain ⟨bj, S, cm⟩ := Row.at o.row Q R
  refine ⟨Q, R, bj, S, ?_⟩
  refine Own.qgh (hi := d) b S Q R 0 [(iv O)] O rfl (Nat.le_of_ble_eq_true rfl) rfl (fun cn b ar bk => ?_)
  obtain ⟨co, bl, bm⟩ := qgN S
  rw [← bm] at ar bk
  have c := (c.then P).chgb ar (Or.inr ⟨_, bl, rfl⟩)
  cases m.trans H.symm
  exact ⟨rfl, b, (by first | (simp only [bC, wC, List.length_set]; done) | (simp only [bC, wC, List.length_set, List.length_set]; done) | (simp; done) | (simp; omega) | omega), c⟩
 apply brc H<;>intro h H
 ·refine ⟨(fun _ => False), ?_⟩
  have hBz := c
  have o := e
  refine ⟨_, noM (f.a 1), _, noM (f.a 2), ?_⟩
  obtain ⟨⟨au, av⟩, H⟩ := H
  obtain ⟨bn, bo, bp⟩ := Row.at e.row au av
  refine ⟨au, av, bn, bo, _, ⟨(fun g => g), (bp 0 _ rfl)⟩, _, noM (f.a 3), ?_⟩
  obtain ⟨⟨aw, ax⟩, H⟩ := H
  obtain ⟨bq, br, bs⟩ := Row.at e.row aw ax
  refine ⟨aw, ax, bq, br, _, ⟨(fun g => g), (bs 0 _ rfl)⟩, ?_⟩
  have b := b.ext (Ext.drew _)
  have c := c.then (Ext.drew _)
  have T := (Chg.refl (fun _ => False) s).then (Ext.drew _)
  obtain ⟨U, bt, H⟩ := qaa H
  refine (qct.con bt ).mono ?_
  rintro _ cp ⟨rfl, V⟩
  have b := b.ext V
  have T := T.then V
  refine ⟨U, rfl, qaw T, ?_⟩
  obtain ⟨⟨W, X⟩, H⟩ := H
  obtain ⟨bu, Y, cq⟩ := Row.at o.row W X
  refine ⟨W, X, bu, Y, ?_⟩
  refine Own.qgh (hi := d) b Y W X 0 [(iv U)] U rfl (Nat.le_of_ble_eq_true rfl) rfl (fun cr b ay bv => ?_)
  obtain ⟨cs, bw, bx⟩ := qgN Y
  rw [← bx] at ay bv
  have c := (c.then V).chgb ay (Or.inr ⟨_, bw, rfl⟩)
  cases m.trans H.symm
  exact ⟨rfl, b, (by first | (simp only [bC, wC, List.length_set]; done) | (simp only [bC, wC, List.length_set, List.length_set]; done) | (simp; done) | (simp; omega) | omega), c⟩
 apply brc H<;>intro h H
 ·refine ⟨(fun _ => False), _, noM (f.a 1), _, noM (f.a 2), ?_⟩
  obtain ⟨⟨az, aA⟩, H⟩ := H
  obtain ⟨bz, bA, bB⟩ := Row.at e.row az aA
  refine ⟨az, aA, bz, bA, _, ⟨(fun g => g), (bB 0 _ rfl)⟩, _, noM (f.a 3), ?_⟩
  obtain ⟨⟨aB, aC⟩, H⟩ := H
  obtain ⟨bD, bE, bF⟩ := Row.at e.row aB aC
  refine ⟨aB, aC, bD, bE, _, ⟨(fun g => g), (bF 0 _ rfl)⟩, ?_⟩
  obtain ⟨⟨Z, a0⟩, H⟩ := H
  obtain ⟨bG, a1, ct⟩ := Row.at e.row Z a0
  refine ⟨Z, a0, bG, a1, ?_⟩
  have b := b.ext (Ext.drew _)
  refine Own.qgh (hi := d) b a1 Z a0 0 [(iv (qgY .i64 (rd (List.drop i (List.take d k)) j.B) (rd (List.drop i (List.take d k)) j.C)))] (qgY .i64 (rd (List.drop i (List.take d k)) j.B) (rd (List.drop i (List.take d k)) j.C)) rfl (Nat.le_of_ble_eq_true rfl) rfl (fun cu b aD bH => ?_)
  obtain ⟨cv, bI, bJ⟩ := qgN a1
  rw [← bJ] at aD bH
  have c := (c.then (Ext.drew _)).chgb aD (Or.inr ⟨_, bI, rfl⟩)
  cases m.trans H.symm
  exact ⟨rfl, b, (by first | (simp only [bC, wC, List.length_set]; done) | (simp only [bC, wC, List.length_set, List.length_set]; done) | (simp; done) | (simp; omega) | omega), c⟩
 apply brc H<;>intro h H
 ·refine ⟨(fun _ => False), ?_⟩
  have hBz := c
  have o := e
  refine ⟨_, noM (f.a 1), _, noM (f.a 2), ?_⟩
  obtain ⟨⟨aE, aF⟩, H⟩ := H
  obtain ⟨bK, bL, bM⟩ := Row.at e.row aE aF
  refine ⟨aE, aF, bK, bL, _, ⟨(fun g => g), (bM 0 _ rfl)⟩, _, noM (f.a 3), ?_⟩
  obtain ⟨⟨aG, aH⟩, H⟩ := H
  obtain ⟨bN, bO, bP⟩ := Row.at e.row aG aH
  refine ⟨aG, aH, bN, bO, _, ⟨(fun g => g), (bP 0 _ rfl)⟩, ?_⟩
  have b := b.ext (Ext.drew _)
  have c := c.then (Ext.drew _)
  have a2 := (Chg.refl (fun _ => False) s).then (Ext.drew _)
  obtain ⟨a3, bQ, H⟩ := qaa H
  refine (qcm.con bQ ).mono ?_
  rintro _ cw ⟨rfl, a4⟩
  have b := b.ext a4
  have a2 := a2.then a4
  refine ⟨a3, rfl, qaw a2, ?_⟩
  obtain ⟨⟨a5, a6⟩, H⟩ := H
  obtain ⟨bR, a7, cx⟩ := Row.at o.row a5 a6
  refine ⟨a5, a6, bR, a7, ?_⟩
  refine Own.qgh (hi := d) b a7 a5 a6 0 [(iv a3)] a3 rfl (Nat.le_of_ble_eq_true rfl) rfl (fun cy b aI bS => ?_)
  obtain ⟨cz, bT, bU⟩ := qgN a7
  rw [← bU] at aI bS
  have c := (c.then a4).chgb aI (Or.inr ⟨_, bT, rfl⟩)
  cases m.trans H.symm
  exact ⟨rfl, b, (by first | (simp only [bC, wC, List.length_set]; done) | (simp only [bC, wC, List.length_set, List.length_set]; done) | (simp; done) | (simp; omega) | omega), c⟩
 apply brc H<;>intro h H
 ·refine ⟨_, (f.a 1), ?_⟩
  obtain ⟨⟨a8, a9⟩, H⟩ := H
  obtain ⟨bV, aa, cA⟩ := Row.at e.row a8 a9
  refine ⟨a8, a9, bV, aa, ?_⟩
  refine Own.qgh (hi := d) b aa a8 a9 0 [(iv n)] n rfl (Nat.le_of_ble_eq_true rfl) rfl (fun cB b aJ bW => ?_)
  obtain ⟨cC, bX, bY⟩ := qgN aa
  rw [← bY] at aJ bW
  have c := c.chgb aJ (Or.inr ⟨_, bX, rfl⟩)
  cases m.trans H.symm
  exact ⟨rfl, b, (by first | (simp only [bC, wC, List.length_set]; done) | (simp only [bC, wC, List.length_set, List.length_set]; done) | (simp; done) | (simp; omega) | omega), c⟩
 apply brc H<;>intro h H
 ·refine ⟨_, (f.a 3), ?_⟩
  obtain ⟨⟨aK, aL⟩, H⟩ := H
  obtain ⟨bZ, c0, c1⟩ := Row.at e.row aK aL
  refine ⟨aK, aL, bZ, c0, _, (c1 0 _ rfl), ?_⟩
  apply brc H<;>intro h H
  ·refine ⟨(fun _ => False), _, noM (f.a 1), _, noM (f.a 2), ?_⟩
   obtain ⟨⟨aM, aN⟩, H⟩ := H
   obtain ⟨c3, c4, c5⟩ := Row.at e.row aM aN
   refine ⟨aM, aN, c3, c4, _, ⟨(fun g => g), (c5 0 _ rfl)⟩, ?_⟩
   obtain ⟨⟨ab, ac⟩, H⟩ := H
   obtain ⟨c6, ad, cD⟩ := Row.at e.row ab ac
   refine ⟨ab, ac, c6, ad, ?_⟩
   have b := b.ext (Ext.drew _)
   refine Own.qgh (hi := d) b ad ab ac 0 [(iv (rd (List.drop i (List.take d k)) j.B))] (rd (List.drop i (List.take d k)) j.B) rfl (Nat.le_of_ble_eq_true rfl) rfl (fun cE b aO c7 => ?_)
   obtain ⟨cF, c8, c9⟩ := qgN ad
   rw [← c9] at aO c7
   have c := (c.then (Ext.drew _)).chgb aO (Or.inr ⟨_, c8, rfl⟩)
   cases m.trans H.symm
   exact ⟨rfl, b, (by first | (simp only [bC, wC, List.length_set]; done) | (simp only [bC, wC, List.length_set, List.length_set]; done) | (simp; done) | (simp; omega) | omega), c⟩
  cases m.trans H.symm
  exact ⟨rfl, b, rfl, c⟩
 cases m.trans H.symm
 exact ⟨rfl, b, rfl, c⟩
def qbk.vc (c : Addr) (C : OA) (n c1 : Nat) (w : World) (K : VK) : Prop :=
  ldS w ((c.add 1).add 0) fun D E al => ldS w ((c.add 1).add 0) fun am e an => (idx (wrap .i64 (((e : Nat) : Int) - 1)) E D fun g => ∃ (h : Int), w.drew.cell? (((g.add (((wrap .i64 (((e : Nat) : Int) - 1)).toNat) * 3)).add 0).add 0) = some (iv h) ∧ (idx h n C fun i => ∃ (o : Int), w.drew.cell? ((i.add ((h.toNat) * 4)).add 0) = some (iv o) ∧ ∃ (p : Int), w.drew.cell? ((i.add ((h.toNat) * 4)).add 1) = some (iv p) ∧ ∃ (q : Int), w.drew.cell? ((i.add ((h.toNat) * 4)).add 2) = some (iv q) ∧ ∃ (r : Int), w.drew.cell? ((i.add ((h.toNat) * 4)).add 3) = some (iv r) ∧ newK w.drew (.cells #[(iv 0), (iv 0), (iv 0), (iv 0)] 84) fun b F => qa5 (bx b) [(iv o), (iv p), (iv q), (iv r)] 0 F fun s => ldI s (((g.add (((wrap .i64 (((e : Nat) : Int) - 1)).toNat) * 3)).add 2).add 0) fun G => Cl 105 #[(iv G)] s fun H I => (∃ (t : OA) (l J : Nat), H = (sv t l J) ∧ qdh (σ := Int × Unit) (fun j a L => qa1 (decide (j.1 < ((l : Nat) : Int))) ((idx j.1 l t fun M => ldI a ((M.add ((j.1.toNat) * 1)).add 0) fun u => (∃ d : Nat → Prop, ldIM d a (bx b) 0 fun N => ldIM d a (bx b) 1 fun O => ldIM d a (bx b) 2 fun P => ldIM d a (bx b) 3 fun Q => ldIM d a (c.add 0) 0 fun R => ldIM d a c 0 fun S => ldSM d a c 1 fun T U V => ldSM d a c 2 fun W X Y => Cl 107 #[(.agg #[(iv S), (sv T U V), (sv W X Y)]), (iv u)] a.drew fun Z v => (∃ (x : OA) (y z : Nat), Z = (sv x y z) ∧ qab d a v ∧ Cl 206 #[(.agg #[(iv N), (iv O), (iv P), (iv Q)]), (iv (wrap .i64 ((wrap .i64 (R * 8)) + u))), (sv x y z)] v fun a0 a1 => (a0 = (.tuple #[]) ∧ L ((wrap .i64 (j.1 + 1)), ()) a1))))) (ldI a (((bx b).add 0).add 0) fun a2 => qa1 (a2 == 12) (qa5 ((g.add (((wrap .i64 (((e : Nat) : Int) - 1)).toNat) * 3)).add 0) [(iv ((n : Nat) : Int))] 0 a fun a3 => K (.tuple #[]) a3) (qfo (σ := Bool × Unit) (fun m => (∃ f : Nat → Prop, ldIM f a ((bx b).add 0) 0 fun a4 => qa1 (a4 == 11) (m (true, ()) a.drew) (ldIM f a ((bx b).add 0) 0 fun a5 => qa1 (a5 == 10) (ldIM f a c 0 fun a6 => ldSM f a c 1 fun a7 a8 a9 => ldSM f a c 2 fun aa ab ac => ldIM f a ((bx b).add 1) 0 fun ad => ldIM f a ((g.add (((wrap .i64 (((e : Nat) : Int) - 1)).toNat) * 3)).add 2) 0 fun ae => Cl 166 #[(.agg #[(iv a6), (sv a7 a8 a9), (sv aa ab ac)]), (iv ad)] a.drew fun af A => (∃ (B : Int), af = (iv B) ∧ qab f a A ∧ m ((B == ae), ()) A)) (m (false, ()) a.drew)))) fun ag k => qa1 ag.1 (ldI k (((bx b).add 2).add 0) fun ah => qa5 ((g.add (((wrap .i64 (((e : Nat) : Int) - 1)).toNat) * 3)).add 0) [(iv ah)] 0 k fun ai => K (.tuple #[]) ai) (ldI k (((g.add (((wrap .i64 (((e : Nat) : Int) - 1)).toNat) * 3)).add 0).add 0) fun aj => qa5 ((g.add (((wrap .i64 (((e : Nat) : Int) - 1)).toNat) * 3)).add 0) [(iv (wrap .i64 (aj + 1)))] 0 k fun ak => K (.tuple #[]) ak)))) (0, ()) I)))

def qbk.ann : Ann := (.seq .l (.seq .l (.seq (.seq .l (.one (.loop [(32, .int .i64)] (.seq .l (.seq (.two .l .l) (.seq (.one (.seq .l .l)) .l)))))) (.one (.seq .l (.two .l (.cut [(67, .bool)] .l (.two .l .l))))))))

theorem qbk.con {e r : D.Warp} {t v u K W : Nat} {q p R : OA} {S : Array Value} {k : List D.Ins} {w : World} (hp : M.qeQ e k) (X : r = M.qbk e k) (c : Plc w t K 52 S (wC q v p u e)) (d : Own el91 w 0 q v e.Frames) (f : Own el3 w 0 p u e.Regs) (R1 : Row el84 w R k) (aU : k.length ≤ W) (D1 : k ≠ [] → ∀ g, InB R g → ¬ (fun l => InB q l ∨ InB p l ∨ l = t) g) :
    Cl 172 #[(.pointer (some (⟨t, K, none⟩ : Addr))), (sv R k.length W)] w (fun v_ m => ∃ (Y : OA) (a6 : Nat) (Z : OA) (a7 : Nat), v_ = (.tuple #[]) ∧ Plc m t K 52 S (wC Y a6 Z a7 r) ∧ Own el91 m 0 Y a6 r.Frames ∧ Mov w q Y ∧ Own el3 m 0 Z a7 r.Regs ∧ Mov w p Z ∧ Chg (fun l => InB q l ∨ InB p l ∨ l = t) w m) := by
 have H := wp.qbk.math e k hp
 refine begK mixed Tryz.f172 ann (vc (⟨t, K, none⟩ : Addr) R k.length W) ?_
 unfold vc
 unfold wp.qbk at H
 refine ⟨_, _, _, (c.a 1), _, _, _, (c.a 1), ?_⟩
 obtain ⟨⟨x, s⟩, H⟩ := H
 obtain ⟨ak, n, aV⟩ := Row.at d.row x s
 refine ⟨x, s, ak, n, ?_⟩
 have c := c.ext (Ext.drew _)
 have d := d.ext (Ext.drew _)
 have f := f.ext (Ext.drew _)
 have i := (Chg.refl (fun l => InB q l ∨ InB p l ∨ l = t) w).then (Ext.drew _)
 have al := Row.re d.row n x (by first | exact s | omega | (simp at s ⊢; omega))
 refine ⟨_, (al 0 _ rfl), ?_⟩
 obtain ⟨⟨a8, a9⟩, H⟩ := H
 obtain ⟨am, an, T⟩ := Row.at (R1.chgS i D1) a8 a9
 refine ⟨a8, a9, am, an, _, (T 0 _ rfl), _, (T 1 _ rfl), _, (T 2 _ rfl), _, (T 3 _ rfl), ?_⟩
 refine qaL (fun aa aW L P5 U => ?_)
 have ao := c.ne L
 have ap := d.qaD L
 have ab := f.qaD L
 have c := c.ext U
 have f := f.ext U
 have j := P5
 have L := Nat.le_trans i.size L
 refine qda j (o := 0) (cs' := #[(iv ((rd k ((rd e.Frames (wrap .i64 ((e.Frames.length : Int) - 1))).Pc)).Op)), (iv ((rd k ((rd e.Frames (wrap .i64 ((e.Frames.length : Int) - 1))).Pc)).A)), (iv ((rd k ((rd e.Frames (wrap .i64 ((e.Frames.length : Int) - 1))).Pc)).B)), (iv ((rd k ((rd e.Frames (wrap .i64 ((e.Frames.length : Int) - 1))).Pc)).C))]) rfl rfl (Nat.le_of_ble_eq_true rfl) rfl (fun aX j V => ?_)
 have aq := c.chg V ao
 have d := (d.ext U).chg V ap
 have ar := f.chg V ab
 have f := ar
 have i := (i.then U).chgb V (Or.inl L)
 have au := Row.re d.row n x (by first | exact s | omega | (simp at s ⊢; omega))
 refine ⟨_, (au 2 _ rfl), ?_⟩
 obtain ⟨F, av, H⟩ := qaa H
 refine (qc8.con av ).mono ?_
 rintro _ aY ⟨ac, ad, rfl, P6, O⟩
 have aw := aN f P6
 have c := aq.ext O
 have d := d.ext O
 have f := f.ext O
 have j := j.ext O
 have G := P6.mono i.size
 have i := i.then O
 refine ⟨ac, F.length, ad, rfl, ?_⟩
 obtain ⟨ax, ⟨ay, az⟩, ae⟩ := H
 refine ⟨fun m_ z_ m => ∃ (y : Int) (I : List Int), z_ = (y, ()) ∧ ax m_ (y, I, ()) ∧ Chg (fun l => InB q l ∨ InB p l ∨ l = t) w m ∧ Own el3 m 0 p u I ∧ e.Regs.length = I.length ∧ Plc m t K 52 S (wC q v p u e) ∧ Own el91 m 0 q v e.Frames ∧ Blk m aa 84 #[(iv ((rd k ((rd e.Frames (wrap .i64 ((e.Frames.length : Int) - 1))).Pc)).Op)), (iv ((rd k ((rd e.Frames (wrap .i64 ((e.Frames.length : Int) - 1))).Pc)).A)), (iv ((rd k ((rd e.Frames (wrap .i64 ((e.Frames.length : Int) - 1))).Pc)).B)), (iv ((rd k ((rd e.Frames (wrap .i64 ((e.Frames.length : Int) - 1))).Pc)).C))] ∧ Own el3 m w.heap.size ac ad F, ⟨ay, 0, e.Regs, rfl, az, i, f, (by first | rfl | assumption | omega | (simp; done) | (simp; omega) | (simp; assumption)), c, d, j, G⟩, ?_⟩
 rintro aA _ af ⟨y, I, rfl, ag, i, f, z, c, d, j, G⟩
 have H := ae aA _ ag
 clear ae ag
 try dsimp only at H ⊢
 apply brc H<;>intro h H
 ·obtain ⟨⟨ah, ai⟩, H⟩ := H
  obtain ⟨aB, aC, aD⟩ := Row.at G.row ah ai
  refine ⟨ah, ai, aB, aC, _, (aD 0 _ rfl), (fun _ => False), _, noM (j.a 0), _, noM (j.a 1), _, noM (j.a 2), _, noM (j.a 3), _, noM (c.a 0), _, noM (c.a 0), _, _, _, noM (c.a 1), _, _, _, noM (c.a 2), ?_⟩
  have c := c.ext (Ext.drew _)
  have d := d.ext (Ext.drew _)
  have f := f.ext (Ext.drew _)
  have j := j.ext (Ext.drew _)
  have G := G.ext (Ext.drew _)
  have i := i.then (Ext.drew _)
  have a0 := (Chg.refl (fun _ => False) af).then (Ext.drew _)
  obtain ⟨aj, H⟩ := H
  refine (qhl (by first | (simp only [bC, wC, List.length_set, ← z]; done) | (simp; done)) (qbr.con aj d.row d.le f.row f.le)).mono ?_
  rintro _ aZ ⟨rfl, J⟩
  have c := c.ext J
  have d := d.ext J
  have f := f.ext J
  have a0 := a0.then J
  have aE : ((wrap .i64 ((rd F y) * 4)).toNat) ≤ (List.take ((wrap .i64 ((wrap .i64 ((rd F y) + 1)) * 4)).toNat) I).length := qbr.cut aj
  refine ⟨(cutA u ((wrap .i64 ((rd F y) * 4)).toNat) p 1), (List.drop ((wrap .i64 ((rd F y) * 4)).toNat) (List.take ((wrap .i64 ((wrap .i64 ((rd F y) + 1)) * 4)).toNat) I)).length, (u - ((wrap .i64 ((rd F y) * 4)).toNat)), rfl, qaw a0, ?_⟩
  obtain ⟨aF, H⟩ := H
  obtain ⟨aG, aH, H⟩ := qaa H
  refine (qbc.con aF aH (f.mono (Nat.zero_le _)) aE).mono ?_
  rintro _ b0 ⟨rfl, Q3, aI, P⟩
  have c := c.chgS P ((f.qa3 c.b (by decide))).inb
  have d := d.chgS P ((Own.qai d f (by decide))).inb
  have j := (j.ext J).chgS P (ab).inb
  have G := (G.ext J).chgS P ((aw).symm).inb
  have i := (i.then J).chg P (fun g E => (Or.inr (Or.inr (Or.inl E))))
  have f := Q3
  refine ⟨rfl, ?_⟩
  obtain ⟨aJ, aK, aL⟩ := H
  exact ⟨aJ, aK, _, aG, rfl, aL, i, f, (by first | rfl | assumption | omega | (simp; done) | (simp; omega) | (simp; assumption)), (by first | exact c | (simp only [bC, wC, List.length_set, ← z, aI]; exact c)), d, j, G⟩
 refine ⟨_, (j.a 0), ?_⟩
 apply brc H<;>intro h H
 ·refine Own.stA d n x s 0 (⟨(k.length : Int), (rd e.Frames (wrap .i64 ((e.Frames.length : Int) - 1))).Stop, (rd e.Frames (wrap .i64 ((e.Frames.length : Int) - 1))).Mask⟩ : D.Frame) (fun b1 Q a1 b2 => ?_)
  have c := c.chg a1 (fun E => ((d.qa3 c.b (by decide))) _ n E.symm)
  have f := f.chg a1 (((Own.qai f d (by decide))).left n)
  have i := i.chgb a1 (Or.inr (Or.inl ⟨_, n, rfl⟩))
  have d := Q
  cases X.trans H.symm
  exact ⟨q, v, p, u, rfl, (by first | exact c | (simp only [bC, wC, List.length_set, ← z]; exact c)), (d.mono (Nat.zero_le _)), (Mov.same _ _), (f.mono (Nat.zero_le _)), (Mov.same _ _), i⟩
 obtain ⟨aM, aO, H⟩ := qd9 H
 refine ⟨fun z_ m => ∃ (a2 : Bool), z_ = (a2, ()) ∧ aM (a2, ()) ∧ Chg (fun l => InB q l ∨ InB p l ∨ l = t) w m ∧ Plc m t K 52 S (wC q v p u e) ∧ Own el91 m 0 q v e.Frames ∧ Own el3 m 0 p u I ∧ Blk m aa 84 #[(iv ((rd k ((rd e.Frames (wrap .i64 ((e.Frames.length : Int) - 1))).Pc)).Op)), (iv ((rd k ((rd e.Frames (wrap .i64 ((e.Frames.length : Int) - 1))).Pc)).A)), (iv ((rd k ((rd e.Frames (wrap .i64 ((e.Frames.length : Int) - 1))).Pc)).B)), (iv ((rd k ((rd e.Frames (wrap .i64 ((e.Frames.length : Int) - 1))).Pc)).C))], ?_, ?_⟩
 ·refine ⟨(fun _ => False), _, noM (j.a 0), ?_⟩
  apply brc H<;>intro h H
  ·have c := c.ext (Ext.drew _)
   have d := d.ext (Ext.drew _)
   have f := f.ext (Ext.drew _)
   have j := j.ext (Ext.drew _)
   have i := i.then (Ext.drew _)
   exact ⟨true, rfl, H, i, (by first | exact c | (simp only [bC, wC, List.length_set, ← z]; exact c)), d, f, j⟩
  refine ⟨_, noM (j.a 0), ?_⟩
  apply brc H<;>intro h H
  ·refine ⟨_, noM (c.a 0), _, _, _, noM (c.a 1), _, _, _, noM (c.a 2), _, noM (j.a 1), ?_⟩
   have aP := Row.re d.row n x (by first | exact s | omega | (simp at s ⊢; omega))
   refine ⟨_, ⟨(fun E => E), (aP 2 _ rfl)⟩, ?_⟩
   have c := c.ext (Ext.drew _)
   have d := d.ext (Ext.drew _)
   have f := f.ext (Ext.drew _)
   have j := j.ext (Ext.drew _)
   have i := i.then (Ext.drew _)
   have a3 := (Chg.refl (fun _ => False) af).then (Ext.drew _)
   obtain ⟨aQ, H⟩ := H
   obtain ⟨aR, aS, H⟩ := qaa H
   refine (qhl (by first | (simp only [bC, wC, List.length_set, ← z]; done) | (simp; done)) (qaS.con aQ aS d.row d.le f.row f.le)).mono ?_
   rintro _ b3 ⟨rfl, N⟩
   have c := c.ext N
   have d := d.ext N
   have f := f.ext N
   have j := j.ext N
   have i := i.then N
   have a3 := a3.then N
   refine ⟨aR, rfl, qaw a3, ?_⟩
   exact ⟨_, rfl, H, i, (by first | exact c | (simp only [bC, wC, List.length_set, ← z]; exact c)), d, f, j⟩
  have c := c.ext (Ext.drew _)
  have d := d.ext (Ext.drew _)
  have f := f.ext (Ext.drew _)
  have j := j.ext (Ext.drew _)
  have i := i.then (Ext.drew _)
  exact ⟨_, rfl, H, i, (by first | exact c | (simp only [bC, wC, List.length_set, ← z]; exact c)), d, f, j⟩
 rintro _ b4 ⟨a2, rfl, H, i, c, d, f, j⟩
 have H := aO _ H
 try dsimp only at H ⊢
 apply brc H<;>intro h H
 ·refine ⟨_, (j.a 2), ?_⟩
  refine Own.stA d n x s 0 (⟨(rd k ((rd e.Frames (wrap .i64 ((e.Frames.length : Int) - 1))).Pc)).B, (rd e.Frames (wrap .i64 ((e.Frames.length : Int) - 1))).Stop, (rd e.Frames (wrap .i64 ((e.Frames.length : Int) - 1))).Mask⟩ : D.Frame) (fun b5 Q a4 b6 => ?_)
  have c := c.chg a4 (fun E => ((d.qa3 c.b (by decide))) _ n E.symm)
  have f := f.chg a4 (((Own.qai f d (by decide))).left n)
  have i := i.chgb a4 (Or.inr (Or.inl ⟨_, n, rfl⟩))
  have d := Q
  cases X.trans H.symm
  exact ⟨q, v, p, u, rfl, (by first | exact c | (simp only [bC, wC, List.length_set, ← z]; exact c)), (d.mono (Nat.zero_le _)), (Mov.same _ _), (f.mono (Nat.zero_le _)), (Mov.same _ _), i⟩
 have aT := Row.re d.row n x (by first | exact s | omega | (simp at s ⊢; omega))
 refine ⟨_, (aT 0 _ rfl), ?_⟩
 refine Own.stA d n x s 0 (⟨(wrap .i64 ((rd e.Frames (wrap .i64 ((e.Frames.length : Int) - 1))).Pc + 1)), (rd e.Frames (wrap .i64 ((e.Frames.length : Int) - 1))).Stop, (rd e.Frames (wrap .i64 ((e.Frames.length : Int) - 1))).Mask⟩ : D.Frame) (fun b7 Q a5 b8 => ?_)
 have c := c.chg a5 (fun E => ((d.qa3 c.b (by decide))) _ n E.symm)
 have f := f.chg a5 (((Own.qai f d (by decide))).left n)
 have i := i.chgb a5 (Or.inr (Or.inl ⟨_, n, rfl⟩))
 have d := Q
 cases X.trans H.symm
 exact ⟨q, v, p, u, rfl, (by first | exact c | (simp only [bC, wC, List.length_set, ← z]; exact c)), (d.mono (Nat.zero_le _)), (Mov.same _ _), (f.mono (Nat.zero_le _)), (Mov.same _ _), i⟩
def qbB.vc (b : Addr) (n : Int) (w : World) (K : VK) : Prop :=
  qdh (σ := Unit) (fun B a o => ldS a ((b.add 1).add 0) fun C p D => qa1 (decide (((p : Nat) : Int) > 0)) ((∃ c : Nat → Prop, ldSM c a (b.add 1) 0 fun q r E => ldSM c a (b.add 1) 0 fun F e G => (idx (wrap .i64 (((e : Nat) : Int) - 1)) r q fun g => ldIM c a (g.add (((wrap .i64 (((e : Nat) : Int) - 1)).toNat) * 3)) 0 fun s => ldIM c a (g.add (((wrap .i64 (((e : Nat) : Int) - 1)).toNat) * 3)) 1 fun t => ldIM c a (g.add (((wrap .i64 (((e : Nat) : Int) - 1)).toNat) * 3)) 2 fun u => newK a.drew (.cells #[(iv 0), (iv 0), (iv 0)] 91) fun f j => qab c a j ∧ qa5 (bx f) [(iv s), (iv t), (iv u)] 0 j fun d => qfo (σ := Unit) (fun k => ldI d (((bx f).add 0).add 0) fun v => ldI d (((bx f).add 1).add 0) fun x => qa1 (v != x) (ldI d (((bx f).add 0).add 0) fun y => qa1 (y != n) (K (.tuple #[]) d) (k () d)) (k () d)) fun H h => (∃ l : Nat → Prop, ldSM l h (b.add 1) 0 fun z I m => ldSM l h (b.add 1) 0 fun J i L => ((0 : Int) ≤ (wrap .i64 (((i : Nat) : Int) - 1)) ∧ (wrap .i64 (((i : Nat) : Int) - 1)) ≤ ((m : Nat) : Int) ∧ qa5 (b.add 1) [(sv z ((wrap .i64 (((i : Nat) : Int) - 1)).toNat) m)] 0 h.drew fun A => o () A))))) (K (.tuple #[]) a)) () w

def qbB.ann : Ann := (.one (.loop [] (.seq (.seq .l (.two .l .l)) (.one (.seq .l (.cut [] (.seq .l (.two .l .l)) .l))))))

theorem qbB.con {i r : D.Warp} {l E t u : Nat} {n s : OA} {B : Array Value} {x : Int} {w : World} (U : M.qel i x) (N : r = M.qbB i x) (c : Plc w l u 52 B (wC n E s t i)) (V : Own el91 w 0 n E i.Frames) (af : Row el3 w s i.Regs) (ag : i.Regs.length ≤ t) (ah : i.Regs ≠ [] → ∀ g, InB s g → ¬ (fun k => InB n k ∨ k = l) g) :
    Cl 132 #[(.pointer (some (⟨l, u, none⟩ : Addr))), (iv x)] w (fun W m => ∃ (F : OA) (O : Nat), W = (.tuple #[]) ∧ Plc m l u 52 B (wC F O s t r) ∧ Own el91 m 0 F O r.Frames ∧ Mov w n F ∧ r.Regs = i.Regs ∧ Chg (fun k => InB n k ∨ k = l) w m) := by
 have H := wp.qbB.math i x U
 have f := Chg.refl (fun k => InB n k ∨ k = l) w
 refine begK mixed Tryz.f132 ann (vc (⟨l, u, none⟩ : Addr) x) ?_
 unfold vc
 unfold wp.qbB at H
 obtain ⟨X, ⟨Y, Z⟩, P⟩ := H
 refine ⟨fun m_ G m => ∃ (v : Int) (d : List D.Frame) (p : OA) (q : Nat), G = (()) ∧ X m_ (v, d, ()) ∧ Chg (fun k => InB n k ∨ k = l) w m ∧ Plc m l u 52 B #[(iv v), (sv p d.length q), (sv s i.Regs.length t)] ∧ Own el91 m 0 p q d ∧ Mov w n p, ⟨Y, i.Number, i.Frames, n, E, rfl, Z, f, c, V, (Mov.same _ _)⟩, ?_⟩
 rintro a0 _ a1 ⟨v, d, p, q, rfl, Q, f, c, e, I⟩
 have H := P a0 _ Q
 clear P Q
 try dsimp only at H ⊢
 refine ⟨_, _, _, (c.a 1), ?_⟩
 apply brc H<;>intro h H
 ·refine ⟨(fun _ => False), _, _, _, noM (c.a 1), _, _, _, noM (c.a 1), ?_⟩
  obtain ⟨⟨R, S⟩, H⟩ := H
  obtain ⟨a2, a3, J⟩ := Row.at e.row R S
  refine ⟨R, S, a2, a3, _, ⟨(fun y => y), (J 0 _ rfl)⟩, _, ⟨(fun y => y), (J 1 _ rfl)⟩, _, ⟨(fun y => y), (J 2 _ rfl)⟩, ?_⟩
  have c := c.ext (Ext.drew _)
  have e := e.ext (Ext.drew _)
  have f := f.then (Ext.drew _)
  refine qaL (fun ai aj z P9 C => ?_)
  have a4 := c.ne z
  have a5 := e.qaD z
  have e := e.ext C
  have A := P9
  have z := Nat.le_trans f.size z
  have a6 := ((Chg.refl (fun _ => False) a1).then (Ext.drew _)).then C
  refine ⟨qaw a6, ?_⟩
  refine qda A (o := 0) (cs' := #[(iv ((rd d (wrap .i64 ((d.length : Int) - 1))).Pc)), (iv ((rd d (wrap .i64 ((d.length : Int) - 1))).Stop)), (iv ((rd d (wrap .i64 ((d.length : Int) - 1))).Mask))]) rfl rfl (Nat.le_of_ble_eq_true rfl) rfl (fun ak A K => ?_)
  have c := (c.ext C).chg K a4
  have a7 := e.chg K a5
  have e := a7
  have f := (f.then C).chgb K (Or.inl z)
  obtain ⟨a8, a9, H⟩ := qd9 H
  refine ⟨fun G m => G = (()) ∧ a8 (()) ∧ Chg (fun k => InB n k ∨ k = l) w m ∧ Plc m l u 52 B #[(iv v), (sv p d.length q), (sv s i.Regs.length t)] ∧ Own el91 m 0 p q d, ?_, ?_⟩
  ·refine ⟨_, (A.a 0), _, (A.a 1), ?_⟩
   apply brc H<;>intro h H
   ·refine ⟨_, (A.a 0), ?_⟩
    apply brc H<;>intro h H
    ·cases N.trans H.symm
     exact ⟨p, q, rfl, c, (e.mono (Nat.zero_le _)), I, rfl, f⟩
    exact ⟨rfl, H, f, c, e⟩
   exact ⟨rfl, H, f, c, e⟩
  rintro _ al ⟨rfl, H, f, c, e⟩
  have H := a9 _ H
  try dsimp only at H ⊢
  refine ⟨(fun _ => False), _, _, _, noM (c.a 1), _, _, _, noM (c.a 1), ?_⟩
  obtain ⟨⟨aa, ab⟩, H⟩ := H
  refine and_assoc.1 ⟨⟨aa, Int.le_trans ab (Int.ofNat_le.2 e.le)⟩, ?_⟩
  rw [show ((wrap .i64 ((d.length : Int) - 1)).toNat) = ((List.take ((wrap .i64 ((d.length : Int) - 1)).toNat) d)).length from by first | rfl | (simp; done) | (simp; omega)]
  have L := (e.take ((wrap .i64 ((d.length : Int) - 1)).toNat))
  have c := c.ext (Ext.drew _)
  have e := e.ext (Ext.drew _)
  refine qnu c (j := 1) (cs' := #[(iv v), (sv p (((List.take ((wrap .i64 ((d.length : Int) - 1)).toNat) d)).length) q), (sv s i.Regs.length t)]) rfl rfl (Nat.le_of_ble_eq_true rfl) rfl (fun am P1 T => ?_)
  have L := (L.ext (Ext.drew _)).chg T (e.qa3 c.b (by decide))
  have f := (f.then (Ext.drew _)).chgb T (Or.inr (Or.inr rfl))
  have c := P1
  obtain ⟨ac, ad, ae⟩ := H
  exact ⟨ac, ad, v, _, p, q, rfl, ae, f, c, L, I⟩
 cases N.trans H.symm
 exact ⟨p, q, rfl, c, (e.mono (Nat.zero_le _)), I, rfl, f⟩
def qbo.vc (a : Addr) (f : OA) (c h : Nat) (w : World) (K : VK) : Prop :=
  (∃ b : Nat → Prop, ldSM b w (a.add 1) 0 fun O o P => qa1 (((o : Nat) : Int) == 0) (K (.bool false) w.drew) (ldSM b w (a.add 1) 0 fun p q Q => ldSM b w (a.add 1) 0 fun R i S => (idx (wrap .i64 (((i : Nat) : Int) - 1)) q p fun r => ldIM b w ((r.add (((wrap .i64 (((i : Nat) : Int) - 1)).toNat) * 3)).add 0) 0 fun e => (idx e c f fun g => ldIM b w (g.add ((e.toNat) * 4)) 0 fun s => ldIM b w (g.add ((e.toNat) * 4)) 1 fun t => ldIM b w (g.add ((e.toNat) * 4)) 2 fun u => ldIM b w (g.add ((e.toNat) * 4)) 3 fun v => Cl 121 #[(.agg #[(iv s), (iv t), (iv u), (iv v)])] w.drew fun x d => (∃ (j : Bool), x = (.bool j) ∧ qab b w d ∧ qa1 (!j) (K (.bool false) d) (ldI d (a.add 0) fun y => ldS d (a.add 1) fun z A B => ldS d (a.add 2) fun C D E => Cl 122 #[(.agg #[(iv y), (sv z A B), (sv C D E)]), (sv f c h)] d fun F k => (∃ (l : Bool), F = (.bool l) ∧ qa1 l (Cl 171 #[(.pointer (some a)), (sv f c h)] k fun G m => (∃ (n : Bool), G = (.bool n) ∧ qa1 (!n) (K (.bool false) m) (Cl 132 #[(.pointer (some a)), (iv ((c : Nat) : Int))] m fun H I => (H = (.tuple #[]) ∧ K (.bool true) I)))) (Cl 172 #[(.pointer (some a)), (sv f c h)] k fun J L => (J = (.tuple #[]) ∧ Cl 132 #[(.pointer (some a)), (iv ((c : Nat) : Int))] L fun M N => (M = (.tuple #[]) ∧ K (.bool true) N))))))))))

def qbo.ann : Ann := (.seq .l (.seq (.seq .l (.two (.seq .l .l) .l)) (.seq (.seq .l (.two (.seq .l (.two (.seq .l .l) .l)) .l)) (.seq .l (.seq .l .l)))))

theorem qbo.con {t : D.Warp} {s z u A J : Nat} {m k B : OA} {R : Array Value} {q : List D.Ins} {r : Bool × D.Warp} {w : World} (hp : M.qfN t q) (x : r = M.qbo t q) (e : Plc w s A 52 R (wC m z k u t)) (j : Own el91 w 0 m z t.Frames) (f : Own el3 w 0 k u t.Regs) (C : Row el84 w B q) (K : q.length ≤ J) (o : q ≠ [] → ∀ g, InB B g → ¬ (fun l => InB m l ∨ InB k l ∨ l = s) g) :
    Cl 130 #[(.pointer (some (⟨s, A, none⟩ : Addr))), (sv B q.length J)] w (fun v_ E => ∃ (L : OA) (S : Nat) (N : OA) (T : Nat), v_ = (.bool r.1) ∧ Plc E s A 52 R (wC L S N T r.2) ∧ Own el91 E 0 L S r.2.Frames ∧ Mov w m L ∧ Own el3 E 0 N T r.2.Regs ∧ Mov w k N ∧ Chg (fun l => InB m l ∨ InB k l ∨ l = s) w E) := by
 have H := wp.qbo.math t q hp
 have i := Chg.refl (fun l => InB m l ∨ InB k l ∨ l = s) w
 refine begK mixed Tryz.f130 ann (vc (⟨s, A, none⟩ : Addr) B q.length J) ?_
 unfold vc
 unfold wp.qbo at H
 refine ⟨(fun _ => False), _, _, _, noM (e.a 1), ?_⟩
 apply brc H<;>intro h H
 ·have e := e.ext (Ext.drew _)
  have j := j.ext (Ext.drew _)
  have f := f.ext (Ext.drew _)
  have i := i.then (Ext.drew _)
  cases x.trans H.symm
  exact ⟨m, z, k, u, rfl, e, (j.mono (Nat.zero_le _)), (Mov.same _ _), (f.mono (Nat.zero_le _)), (Mov.same _ _), i⟩
 refine ⟨_, _, _, noM (e.a 1), _, _, _, noM (e.a 1), ?_⟩
 obtain ⟨⟨U, V⟩, H⟩ := H
 obtain ⟨a2, a3, a4⟩ := Row.at j.row U V
 refine ⟨U, V, a2, a3, _, ⟨(fun c => c), (a4 0 _ rfl)⟩, ?_⟩
 obtain ⟨⟨W, X⟩, H⟩ := H
 obtain ⟨a5, a6, F⟩ := Row.at (C.chgS i o) W X
 refine ⟨W, X, a5, a6, _, ⟨(fun c => c), (F 0 _ rfl)⟩, _, ⟨(fun c => c), (F 1 _ rfl)⟩, _, ⟨(fun c => c), (F 2 _ rfl)⟩, _, ⟨(fun c => c), (F 3 _ rfl)⟩, ?_⟩
 have e := e.ext (Ext.drew _)
 have j := j.ext (Ext.drew _)
 have f := f.ext (Ext.drew _)
 have i := i.then (Ext.drew _)
 have O := (Chg.refl (fun _ => False) w).then (Ext.drew _)
 obtain ⟨a7, a8, H⟩ := qaa H
 refine (qcF.con a8 ).mono ?_
 rintro _ aH ⟨rfl, y⟩
 have e := e.ext y
 have j := j.ext y
 have f := f.ext y
 have i := i.then y
 have O := O.then y
 refine ⟨a7, rfl, qaw O, ?_⟩
 apply brc H<;>intro h H
 ·cases x.trans H.symm
  exact ⟨m, z, k, u, rfl, e, (j.mono (Nat.zero_le _)), (Mov.same _ _), (f.mono (Nat.zero_le _)), (Mov.same _ _), i⟩
 refine ⟨_, (e.a 0), _, _, _, (e.a 1), _, _, _, (e.a 2), ?_⟩
 obtain ⟨a9, H⟩ := H
 obtain ⟨aa, ab, H⟩ := qaa H
 refine (qb4.con a9 ab j.row j.le f.row f.le (C.chgS i o) K).mono ?_
 rintro _ aI ⟨rfl, G⟩
 have e := e.ext G
 have j := j.ext G
 have f := f.ext G
 have i := i.then G
 refine ⟨aa, rfl, ?_⟩
 apply brc H<;>intro h H
 ·obtain ⟨ac, H⟩ := H
  obtain ⟨ad, ae, H⟩ := qaa H
  refine (qaT.con ac ae e (j.mono (Nat.zero_le _)) f.row f.le (C.chgS i o) K (fun _ => (fun g c => (fun d => d.elim (((Own.qai f j (by decide))).inb g c) ((qbT (f.qa3 e.b (by decide))) g c)))) (fun v => (fun g c => (fun d => d.elim ((fun g c d => o v g c (Or.inl d)) g c) ((fun g c d => o v g c (Or.inr (Or.inr d))) g c))))).mono ?_
  rintro _ aJ ⟨af, ag, rfl, n, Q5, ah, ai, Y⟩
  simp only [bC, wC, ai] at n
  have P := Mov.trans (Mov.same w m) ah i.size
  have f := f.chgS Y (fun g c => (fun d => d.elim (((Own.qai f j (by decide))).inb g c) ((qbT (f.qa3 e.b (by decide))) g c)))
  have i := i.chg Y (fun g => (fun d => d.elim ((fun g c => (Or.inr (Or.inl c))) g) ((fun g c => Or.inr (Or.inr (Or.inr c))) g)))
  have e := n
  have I := Q5
  refine ⟨ad.1, rfl, ?_⟩
  apply brc H<;>intro h H
  ·cases x.trans H.symm
   exact ⟨af, ag, k, u, rfl, e, (I.mono (Nat.zero_le _)), P, (f.mono (Nat.zero_le _)), (Mov.same _ _), i⟩
  obtain ⟨aj, H⟩ := H
  obtain ⟨aK, ak, H⟩ := qaa H
  refine (qbB.con aj ak e (I.mono (Nat.zero_le _)) f.row f.le (fun _ => (fun g c => (fun d => d.elim (((Own.qai f I (by decide))).inb g c) ((qbT (f.qa3 e.b (by decide))) g c))))).mono ?_
  rintro _ aL ⟨al, am, rfl, n, Q6, an, ao, Z⟩
  simp only [bC, wC, ao] at n
  have ap := Mov.trans P an i.size
  have f := f.chgS Z (fun g c => (fun d => d.elim (((Own.qai f I (by decide))).inb g c) ((qbT (f.qa3 e.b (by decide))) g c)))
  have i := i.chg Z (fun g => (fun d => d.elim ((fun g c => (qgK P c (fun c => (Or.inl c)))) g) ((fun g c => Or.inr (Or.inr (Or.inr c))) g)))
  have e := n
  have O6 := Q6
  refine ⟨rfl, ?_⟩
  cases x.trans H.symm
  exact ⟨al, am, k, u, rfl, e, (O6.mono (Nat.zero_le _)), ap, (f.mono (Nat.zero_le _)), (Mov.same _ _), i⟩
 obtain ⟨aq, H⟩ := H
 obtain ⟨aM, ar, H⟩ := qaa H
 refine (qbk.con aq ar e (j.mono (Nat.zero_le _)) (f.mono (Nat.zero_le _)) (C.chgS i o) K (fun v => (fun g c => (fun d => d.elim ((fun g c d => o v g c (Or.inl d)) g c) (fun d => d.elim ((fun g c d => o v g c (Or.inr (Or.inl d))) g c) ((fun g c d => o v g c (Or.inr (Or.inr d))) g c)))))).mono ?_
 rintro _ aN ⟨aO, aP, au, av, rfl, n, Q7, aw, Q8, ax, ay⟩
 have a0 := Mov.trans (Mov.same w m) aw i.size
 have az := Mov.trans (Mov.same w k) ax i.size
 have i := i.chg ay (fun g => (fun d => d.elim ((fun g c => (Or.inr (Or.inl c))) g) (fun d => d.elim ((fun g c => (Or.inr (Or.inr (Or.inl c)))) g) ((fun g c => Or.inr (Or.inr (Or.inr c))) g))))
 have e := n
 have Q := Q7
 have p := Q8
 refine ⟨rfl, ?_⟩
 obtain ⟨aA, H⟩ := H
 obtain ⟨aQ, aB, H⟩ := qaa H
 refine (qbB.con aA aB e (Q.mono (Nat.zero_le _)) p.row p.le (fun _ => (fun g c => (fun d => d.elim (((Own.qai p Q (by decide))).inb g c) ((qbT (p.qa3 e.b (by decide))) g c))))).mono ?_
 rintro _ aR ⟨aC, aD, rfl, n, Q9, aE, aF, a1⟩
 simp only [bC, wC, aF] at n
 have aG := Mov.trans a0 aE i.size
 have p := p.chgS a1 (fun g c => (fun d => d.elim (((Own.qai p Q (by decide))).inb g c) ((qbT (p.qa3 e.b (by decide))) g c)))
 have i := i.chg a1 (fun g => (fun d => d.elim ((fun g c => (qgK a0 c (fun c => (Or.inl c)))) g) ((fun g c => Or.inr (Or.inr (Or.inr c))) g)))
 have e := n
 have O9 := Q9
 refine ⟨rfl, ?_⟩
 cases x.trans H.symm
 exact ⟨aC, aD, au, av, rfl, e, (O9.mono (Nat.zero_le _)), aG, (p.mono (Nat.zero_le _)), az, i⟩
def qd1.vc (b : Addr) (c : Int) (w : World) (K : VK) : Prop :=
  Cl 67 #[(.pointer (some b)), (iv c)] w fun d e => (∃ (a : Int), d = (iv a) ∧ K (.bool (a == 0)) e)

def qd1.ann : Ann := (.seq .l (.seq .l .l))

theorem qd1.con {a : D.Cur} {c k : Nat} {f : OA} {d : Int} {r : Bool × D.Cur} {w : World} (q : M.qfj a d) (s : r = M.qd1 a d) (l : Blk w c 129 #[(sv f a.b.length k), (iv a.i), (iv a.h)]) (t : Row el5 w f a.b) (u : a.b.length ≤ k) (n : a.b ≠ [] → ∀ g, InB f g → ¬ (fun e => e = c) g) :
    Cl 116 #[(.pointer (some (bx c))), (iv d)] w (fun v o => v = (.bool r.1) ∧ Blk o c 129 #[(sv f r.2.b.length k), (iv r.2.i), (iv r.2.h)] ∧ r.2.b = a.b ∧ Chg (fun e => e = c) w o) := by
 have H := wp.qd1.math a d q
 have j := Chg.refl (fun e => e = c) w
 refine begK mixed Tryz.f116 ann (vc (bx c) d) ?_
 unfold vc
 unfold wp.qd1 at H
 obtain ⟨x, H⟩ := H
 obtain ⟨y, z, H⟩ := qaa H
 refine (qa0.con x z l (t.chgS j n) u (fun A => (fun g m B => n A g m B))).mono ?_
 rintro _ F ⟨rfl, p, C, E⟩
 simp only [bC, wC, C] at p
 have j := j.chg E (fun g m => Or.inr m)
 have l := p
 refine ⟨y.1, rfl, ?_⟩
 cases s.trans H.symm
 exact ⟨rfl, l, rfl, j⟩
end Go.V
