import Derived.Test.YtkpfabigipedcaaGreatLoCon2
namespace Go.V
open Go.Proofs
open IntKind (wrap)
set_option linter.unusedVariables false
set_option linter.unusedSimpArgs false
set_option maxRecDepth 100000
def qb3.vc (b : Addr) (A1 : OA) (n1 c1 : Nat) (g : Int) (w : World) (K : VK) : Prop :=
  Cl 67 #[(.pointer (some b)), (iv 4)] w fun ad ae => (∃ (r : Int), ad = (iv r) ∧ qdh (σ := (OA × Nat × Nat) × Int × Unit) (fun a l c => qa1 (decide (a.2.1 > 0)) (qa1 (decide (((a.1.2.1 : Nat) : Int) < 20)) (Cl 67 #[(.pointer (some b)), (iv 5)] l fun af e => (∃ (m : Int), af = (iv m) ∧ qa1 (m == 0) (qa1 (g == 0) (c ((a.1.1, a.1.2.1, a.1.2.2), (wrap .i64 (a.2.1 - 1)), ()) e) (Cl 67 #[(.pointer (some b)), (iv 4)] e fun ag ah => (∃ (s : Int), ag = (iv s) ∧ Run Tryz.prog (Instr.buildSlice 30 1 #[(0, (.agg #[(iv 10), (iv s), (iv 0), (iv 0)]))]) ah fun ai aj => ∃ (t : OA) (u v : Nat), ai = .slice t u v ∧ Run Tryz.prog (Builtin.append_ #[30, 30] 30 #[(sv a.1.1 a.1.2.1 a.1.2.2), (sv t u v)]) aj fun ak al => ∃ (x : OA) (y z : Nat), ak = .slice x y z ∧ Cl 141 #[(.pointer (some b)), (sv x y z), (iv (wrap .i64 (g - 1)))] al fun am an => (∃ (h : OA) (d n : Nat), am = (sv h d n) ∧ Cl 116 #[(.pointer (some b)), (iv 2)] an fun ao A => (∃ (B : Bool), ao = (.bool B) ∧ qa1 B ((idx ((a.1.2.1 : Nat) : Int) d h fun ap => qa5 ((ap.add ((((a.1.2.1 : Nat) : Int).toNat) * 4)).add 2) [(iv ((d : Nat) : Int))] 0 A fun aq => c ((h, d, n), (wrap .i64 (a.2.1 - 1)), ()) aq)) (Run Tryz.prog (Instr.buildSlice 30 1 #[(0, (.agg #[(iv 11), (iv 0), (iv 0), (iv 0)]))]) A fun ar au => ∃ (C : OA) (D E : Nat), ar = .slice C D E ∧ Run Tryz.prog (Builtin.append_ #[30, 30] 30 #[(sv h d n), (sv C D E)]) au fun av aw => ∃ (o : OA) (i F : Nat), av = .slice o i F ∧ (idx ((a.1.2.1 : Nat) : Int) i o fun ax => qa5 ((ax.add ((((a.1.2.1 : Nat) : Int).toNat) * 4)).add 2) [(iv ((i : Nat) : Int))] 0 aw fun ay => Cl 141 #[(.pointer (some b)), (sv o i F), (iv (wrap .i64 (g - 1)))] ay fun az aA => (∃ (p : OA) (j G : Nat), az = (sv p j G) ∧ (idx ((d : Nat) : Int) j p fun aB => qa5 ((aB.add ((((d : Nat) : Int).toNat) * 4)).add 2) [(iv ((j : Nat) : Int))] 0 aA fun aC => c ((p, j, G), (wrap .i64 (a.2.1 - 1)), ()) aC))))))))) (qa1 (m == 1) (qa1 (g == 0) (c ((a.1.1, a.1.2.1, a.1.2.2), (wrap .i64 (a.2.1 - 1)), ()) e) (qa1 (decide (((a.1.2.1 : Nat) : Int) > 14)) (c ((a.1.1, a.1.2.1, a.1.2.2), (wrap .i64 (a.2.1 - 1)), ()) e) (Run Tryz.prog (Instr.buildSlice 30 1 #[(0, (.agg #[(iv 8), (iv 3), (iv 0), (iv 0)]))]) e fun aD aE => ∃ (H : OA) (I J : Nat), aD = .slice H I J ∧ Run Tryz.prog (Builtin.append_ #[30, 30] 30 #[(sv a.1.1 a.1.2.1 a.1.2.2), (sv H I J)]) aE fun aF aG => ∃ (L : OA) (f M : Nat), aF = .slice L f M ∧ Run Tryz.prog (Instr.buildSlice 30 1 #[(0, (.agg #[(iv 10), (iv 3), (iv 0), (iv 0)]))]) aG fun aH aI => ∃ (N : OA) (O P : Nat), aH = .slice N O P ∧ Run Tryz.prog (Builtin.append_ #[30, 30] 30 #[(sv L f M), (sv N O P)]) aI fun aJ aK => ∃ (Q : OA) (R S : Nat), aJ = .slice Q R S ∧ Run Tryz.prog (Instr.buildSlice 30 3 #[(0, (.agg #[(iv 3), (iv 0), (iv 0), (iv 1)])), (1, (.agg #[(iv 1), (iv 2), (iv 1), (iv 0)])), (2, (.agg #[(iv 4), (iv 3), (iv 3), (iv 2)]))]) aK fun aL aM => ∃ (T : OA) (U V : Nat), aL = .slice T U V ∧ Run Tryz.prog (Builtin.append_ #[30, 30] 30 #[(sv Q R S), (sv T U V)]) aM fun aN aO => ∃ (W : OA) (X Y : Nat), aN = .slice W X Y ∧ Run Tryz.prog (Instr.buildSlice 30 1 #[(0, (.agg #[(iv 11), (iv 0), (iv ((f : Nat) : Int)), (iv 0)]))]) aO fun aP aQ => ∃ (Z : OA) (a0 a1 : Nat), aP = .slice Z a0 a1 ∧ Run Tryz.prog (Builtin.append_ #[30, 30] 30 #[(sv W X Y), (sv Z a0 a1)]) aQ fun aR aS => ∃ (q : OA) (k a2 : Nat), aR = .slice q k a2 ∧ (idx ((f : Nat) : Int) k q fun aT => qa5 ((aT.add ((((f : Nat) : Int).toNat) * 4)).add 2) [(iv ((k : Nat) : Int))] 0 aS fun aU => c ((q, k, a2), (wrap .i64 (a.2.1 - 1)), ()) aU)))) (Cl 143 #[(.pointer (some b))] e fun aV aW => (∃ (a3 : Int), True ∧ ∃ (a4 : Int), True ∧ ∃ (a5 : Int), True ∧ ∃ (a6 : Int), True ∧ aV = (.agg #[(iv a3), (iv a4), (iv a5), (iv a6)]) ∧ Run Tryz.prog (Instr.buildSlice 30 1 #[(0, (.agg #[(iv a3), (iv a4), (iv a5), (iv a6)]))]) aW fun aX aY => ∃ (a7 : OA) (a8 a9 : Nat), aX = .slice a7 a8 a9 ∧ Run Tryz.prog (Builtin.append_ #[30, 30] 30 #[(sv a.1.1 a.1.2.1 a.1.2.2), (sv a7 a8 a9)]) aY fun aZ b0 => ∃ (aa : OA) (ab ac : Nat), aZ = .slice aa ab ac ∧ c ((aa, ab, ac), (wrap .i64 (a.2.1 - 1)), ()) b0))))) (K (sv a.1.1 a.1.2.1 a.1.2.2) l)) (K (sv a.1.1 a.1.2.1 a.1.2.2) l)) ((A1, n1, c1), r, ()) ae)

def qb3.ann : Ann := (.seq .l (.seq (.seq .l (.one (.loop [(1, .sl), (7, .int .i64)] (.seq (.seq .l (.two .l .l)) (.seq (.one (.seq .l (.one (.seq .l (.two (.seq (.seq .l (.two .l .l)) (.seq .l (.seq .l (.seq .l (.seq .l (.seq (.seq .l (.two (.seq .l .l) .l)) (.seq .l (.seq .l (.seq .l (.seq .l .l)))))))))) (.seq .l (.two (.seq (.seq .l (.two .l .l)) (.seq .l (.seq .l (.seq .l (.seq .l (.seq .l .l)))))) .l))))))) .l))))) (.seq .l .l)))

theorem qb3.con_ (n_ : Nat) : ∀ {u : D.Cur} {F : Nat} {W : OA} {a5 : Nat} {N : List D.Ins} {x : OA} {c1 : Nat} {R : Int} {r : (List D.Ins) × D.Cur} {w : World} (hp : M.qdZ u N R) (hr : r = M.qb3 u N R) (c : Blk w F 129 #[(sv W u.b.length a5), (iv u.i), (iv u.h)]) (G : Row el5 w W u.b) (O : u.b.length ≤ a5) (O3 : Own el84 w 0 x c1 N) (n : u.b ≠ [] → ∀ g, InB W g → ¬ (fun y => y = F ∨ InB x y) g), (R).toNat = n_ →
    Cl 141 #[(.pointer (some (bx F))), (sv x N.length c1), (iv R)] w (fun v_ S => ∃ (ag : OA) (aI : Nat), v_ = (sv ag r.1.length aI) ∧ Own el84 S 0 ag aI r.1 ∧ Mov w x ag ∧ Blk S F 129 #[(sv W r.2.b.length a5), (iv r.2.i), (iv r.2.h)] ∧ r.2.b = u.b ∧ Chg (fun y => y = F ∨ InB x y) w S) := by
  induction n_ using Nat.strongRecOn with
  | ind n_ aJ =>
  intro u F W a5 N x c1 R r w hp hr c G O O3 n aK
  have H := wp.qb3.math u N R hp
  have d := Chg.refl (fun y => y = F ∨ InB x y) w
  refine qq3 mixed (fn := Tryz.f141) (by kernel_rfl) (by kernel_rfl) (an := qb3.ann) (V := qb3.vc (bx F) x N.length c1 R) (by kernel_rfl) ?_
  unfold qb3.vc
  unfold wp.qb3 at H
  obtain ⟨b9, H⟩ := H
  obtain ⟨a6, ba, H⟩ := qaa H
  refine (qa0.con b9 ba c (G.chgS d n) O (fun o => (fun g a j => n o g a (Or.inl j)))).mono ?_
  rintro _ cx ⟨rfl, l, bb, aL⟩
  simp only [bC, wC, bb] at l
  have O3 := O3.chgS aL (qbT (O3.qa3 c (by decide)))
  have d := d.chg aL (fun g a => Or.inr (Or.inl a))
  have c := l
  refine ⟨a6.1, rfl, ?_⟩
  obtain ⟨bc, ⟨bd, be⟩, aM⟩ := H
  refine ⟨fun m_ z_ S => ∃ (f : List D.Ins) (I ah ai : Int) (J : OA) (P : Nat), z_ = ((J, f.length, P), I, ()) ∧ bc m_ (f, I, ah, ai, ()) ∧ Chg (fun y => y = F ∨ InB x y) w S ∧ Own el84 S 0 J P f ∧ Mov w x J ∧ Blk S F 129 #[(sv W u.b.length a5), (iv ah), (iv ai)], ⟨bd, N, a6.1, a6.2.i, a6.2.h, x, c1, rfl, be, d, O3, (Mov.same _ _), c⟩, ?_⟩
  rintro bf _ cy ⟨f, I, ah, ai, J, P, rfl, aN, d, e, z, c⟩
  have H := aM bf _ aN
  clear aM aN
  try dsimp only at H ⊢
  refine brc H (fun bg H => ?_) (fun bg H => ?_)
  ·refine brc H (fun bh H => ?_) (fun bh H => ?_)
   ·obtain ⟨bi, H⟩ := H
    obtain ⟨K, bj, H⟩ := qaa H
    refine (qa0.con bi bj c (G.chgS d n) O (fun o => (fun g a j => n o g a (Or.inl j)))).mono ?_
    rintro _ cz ⟨rfl, l, bk, aO⟩
    simp only [bC, wC, bk] at l
    have e := e.chgS aO (qbT (e.qa3 c (by decide)))
    have d := d.chg aO (fun g a => Or.inr (Or.inl a))
    have c := l
    refine ⟨K.1, rfl, ?_⟩
    refine brc H (fun bl H => ?_) (fun bl H => ?_)
    ·refine brc H (fun bm H => ?_) (fun bm H => ?_)
     ·obtain ⟨bn, bo, bp⟩ := H
      exact ⟨bn, bo, f, (wrap .i64 (I - 1)), K.2.i, K.2.h, J, P, rfl, bp, d, e, z, c⟩
     obtain ⟨bq, H⟩ := H
     obtain ⟨aP, br, H⟩ := qaa H
     refine (qa0.con bq br c (G.chgS d n) O (fun o => (fun g a j => n o g a (Or.inl j)))).mono ?_
     rintro _ cA ⟨rfl, l, bs, aQ⟩
     simp only [bC, wC, bs] at l
     have e := e.chgS aQ (qbT (e.qa3 c (by decide)))
     have d := d.chg aQ (fun g a => Or.inr (Or.inl a))
     have c := l
     refine ⟨aP.1, rfl, ?_⟩
     refine qaz el84 ([(⟨10, aP.1, 0, 0⟩ : D.Ins)] : List D.Ins) (fun _ => by kernel_rfl) rfl (fun cB cC P6 aj => ?_)
     have cD := P6.qap c.lt
     have aR := Own.qev e P6 (Nat.le_refl _)
     have c := c.ext aj
     have e := e.ext aj
     have O6 := P6.mono d.size
     have d := d.then aj
     obtain ⟨bt, H⟩ := H
     refine qgW qgL qgL.under e O6.row (Nat.zero_le _) rfl (by first | rfl | omega | (simp; done) | (simp; omega)) bt (fun cE cF cG q X => ?_)
     have E := Apart.app (e.qa3 c (by decide)) X c.lt
     have c := c.app X (e.qa3 c (by decide))
     have bu := qec.app (aR).symm X O6
     have O6 := O6.app X (aR).symm
     have v := E
     have cH := bu
     have s := d.size
     have d := d.app X (fun g a => (qgK z a (fun a => (Or.inr a))))
     have e := q
     have p := Mov.trans z X.blk s
     obtain ⟨bv, H⟩ := H
     obtain ⟨k, bw, H⟩ := qaa H
     refine (aJ _ (by rw [← aK]; exact qb3.dec hp (by assumption)) bv bw c (G.chgS d n) O (e.mono (Nat.zero_le _)) (fun o => (fun g a => (fun j => j.elim ((fun g a j => n o g a (Or.inl j)) g a) ((fun g a j => (qgK p j (fun a => (Or.inr a))).elim (fun ak => Nat.not_le.2 (G.old o g a) ak) (n o g a)) g a)))) rfl).mono ?_
     rintro _ cI ⟨aS, aT, rfl, T, bz, l, bA, bB⟩
     simp only [bC, wC, bA] at l
     have L := Mov.trans p bz d.size
     have d := d.chg bB (fun g => (fun j => j.elim ((fun g a => Or.inr (Or.inl a)) g) ((fun g a => (qgK p a (fun a => (Or.inr a)))) g)))
     have c := l
     have m := T
     refine ⟨aS, k.1.length, aT, rfl, ?_⟩
     obtain ⟨bD, H⟩ := H
     obtain ⟨al, bE, H⟩ := qaa H
     refine (qd1.con bD bE c (G.chgS d n) O (fun o => (fun g a j => n o g a (Or.inl j)))).mono ?_
     rintro _ cJ ⟨rfl, l, bF, aU⟩
     simp only [bC, wC, bF] at l
     have m := m.chgS aU (qbT (m.qa3 c (by decide)))
     have d := d.chg aU (fun g a => Or.inr (Or.inl a))
     have c := l
     refine ⟨al.1, rfl, ?_⟩
     refine brc H (fun bG H => ?_) (fun bG H => ?_)
     ·obtain ⟨⟨am, ao⟩, H⟩ := H
      obtain ⟨bH, a7, cK⟩ := Row.at m.row am ao
      refine ⟨am, ao, bH, a7, ?_⟩
      refine Own.storeAt m a7 am ao 2 [(iv (k.1.length : Int))] (⟨(rd k.1 (f.length : Int)).Op, (rd k.1 (f.length : Int)).A, (k.1.length : Int), (rd k.1 (f.length : Int)).C⟩ : D.Ins) rfl (Nat.le_of_ble_eq_true rfl) rfl (fun cL T aV cM => ?_)
      have U := c.chg aV (fun a => ((m.qa3 c (by decide))) _ a7 a.symm)
      have c := U
      have d := d.chgb aV (qgK L ⟨_, a7, rfl⟩ (fun a => (Or.inr a)))
      have m := T
      obtain ⟨bI, bJ, bK⟩ := H
      exact ⟨bI, bJ, (List.set k.1 ((f.length : Int).toNat) (⟨(rd k.1 (f.length : Int)).Op, (rd k.1 (f.length : Int)).A, (k.1.length : Int), (rd k.1 (f.length : Int)).C⟩ : D.Ins)), (wrap .i64 (I - 1)), al.2.i, al.2.h, aS, aT, (by first | rfl | (simp only [bC, wC, List.length_set])), bK, d, (by first | exact m | (simp only [bC, wC, List.length_set]; exact m)), L, (by first | exact c | (simp only [bC, wC, List.length_set]; exact c))⟩
     refine qaz el84 ([(⟨11, 0, 0, 0⟩ : D.Ins)] : List D.Ins) (fun _ => by kernel_rfl) rfl (fun cN cO P8 ap => ?_)
     have cP := P8.qap c.lt
     have aW := Own.qev m P8 (Nat.le_refl _)
     have c := c.ext ap
     have m := m.ext ap
     have O8 := P8.mono d.size
     have d := d.then ap
     obtain ⟨bL, H⟩ := H
     refine qgW qgL qgL.under m O8.row (Nat.zero_le _) rfl (by first | rfl | omega | (simp; done) | (simp; omega)) bL (fun cQ cR cS T Y => ?_)
     have bM := Apart.app (m.qa3 c (by decide)) Y c.lt
     have c := c.app Y (m.qa3 c (by decide))
     have bN := qec.app (aW).symm Y O8
     have O8 := O8.app Y (aW).symm
     have bO := bM
     have cT := bN
     have s := d.size
     have d := d.app Y (fun g a => (qgK L a (fun a => (Or.inr a))))
     have m := T
     have L := Mov.trans L Y.blk s
     obtain ⟨⟨aq, ar⟩, H⟩ := H
     obtain ⟨bP, a8, cU⟩ := Row.at m.row aq ar
     refine ⟨aq, ar, bP, a8, ?_⟩
     refine Own.storeAt m a8 aq ar 2 [(iv (((k.1 ++ ([(⟨11, 0, 0, 0⟩ : D.Ins)] : List D.Ins))).length : Int))] (⟨(rd (k.1 ++ ([(⟨11, 0, 0, 0⟩ : D.Ins)] : List D.Ins)) (f.length : Int)).Op, (rd (k.1 ++ ([(⟨11, 0, 0, 0⟩ : D.Ins)] : List D.Ins)) (f.length : Int)).A, (((k.1 ++ ([(⟨11, 0, 0, 0⟩ : D.Ins)] : List D.Ins))).length : Int), (rd (k.1 ++ ([(⟨11, 0, 0, 0⟩ : D.Ins)] : List D.Ins)) (f.length : Int)).C⟩ : D.Ins) rfl (Nat.le_of_ble_eq_true rfl) rfl (fun cV T aX cW => ?_)
     have U := c.chg aX (fun a => (bO) _ a8 a.symm)
     have c := U
     have d := d.chgb aX (qgK L ⟨_, a8, rfl⟩ (fun a => (Or.inr a)))
     have m := T
     obtain ⟨bQ, H⟩ := H
     obtain ⟨t, bR, H⟩ := qaa H
     refine (qhl (by first | (simp only [bC, wC, List.length_set]; done) | (simp; done)) (aJ _ (by rw [← aK]; exact qb3.dec hp (by assumption)) bQ bR c (G.chgS d n) O (m.mono (Nat.zero_le _)) (fun o => (fun g a => (fun j => j.elim ((fun g a j => n o g a (Or.inl j)) g a) ((fun g a j => (qgK L j (fun a => (Or.inr a))).elim (fun ak => Nat.not_le.2 (G.old o g a) ak) (n o g a)) g a)))) rfl)).mono ?_
     rintro _ cX ⟨aY, aZ, rfl, P9, bS, l, bT, bU⟩
     simp only [bC, wC, bT] at l
     have b0 := Mov.trans L bS d.size
     have d := d.chg bU (fun g => (fun j => j.elim ((fun g a => Or.inr (Or.inl a)) g) ((fun g a => (qgK L a (fun a => (Or.inr a)))) g)))
     have c := l
     have Z := P9
     refine ⟨aY, t.1.length, aZ, rfl, ?_⟩
     obtain ⟨⟨au, av⟩, H⟩ := H
     obtain ⟨bV, a9, cY⟩ := Row.at Z.row au av
     refine ⟨au, av, bV, a9, ?_⟩
     refine Own.storeAt Z a9 au av 2 [(iv (t.1.length : Int))] (⟨(rd t.1 (k.1.length : Int)).Op, (rd t.1 (k.1.length : Int)).A, (t.1.length : Int), (rd t.1 (k.1.length : Int)).C⟩ : D.Ins) rfl (Nat.le_of_ble_eq_true rfl) rfl (fun cZ P9 b1 d0 => ?_)
     have U := c.chg b1 (fun a => ((Z.qa3 c (by decide))) _ a9 a.symm)
     have c := U
     have d := d.chgb b1 (qgK b0 ⟨_, a9, rfl⟩ (fun a => (Or.inr a)))
     have Z := P9
     obtain ⟨bW, bX, bY⟩ := H
     exact ⟨bW, bX, (List.set t.1 ((k.1.length : Int).toNat) (⟨(rd t.1 (k.1.length : Int)).Op, (rd t.1 (k.1.length : Int)).A, (t.1.length : Int), (rd t.1 (k.1.length : Int)).C⟩ : D.Ins)), (wrap .i64 (I - 1)), t.2.i, t.2.h, aY, aZ, (by first | rfl | (simp only [bC, wC, List.length_set])), bY, d, (by first | exact Z | (simp only [bC, wC, List.length_set]; exact Z)), b0, (by first | exact c | (simp only [bC, wC, List.length_set]; exact c))⟩
    refine brc H (fun bZ H => ?_) (fun bZ H => ?_)
    ·refine brc H (fun c0 H => ?_) (fun c0 H => ?_)
     ·obtain ⟨c2, c3, c4⟩ := H
      exact ⟨c2, c3, f, (wrap .i64 (I - 1)), K.2.i, K.2.h, J, P, rfl, c4, d, e, z, c⟩
     refine brc H (fun c5 H => ?_) (fun c5 H => ?_)
     ·obtain ⟨c6, c7, c8⟩ := H
      exact ⟨c6, c7, f, (wrap .i64 (I - 1)), K.2.i, K.2.h, J, P, rfl, c8, d, e, z, c⟩
     refine qaz el84 ([(⟨8, 3, 0, 0⟩ : D.Ins)] : List D.Ins) (fun _ => by kernel_rfl) rfl (fun d1 d2 aw ax => ?_)
     have d3 := aw.qap c.lt
     have b2 := Own.qev e aw (Nat.le_refl _)
     have c := c.ext ax
     have e := e.ext ax
     have aa := aw.mono d.size
     have d := d.then ax
     obtain ⟨c9, H⟩ := H
     refine qgW qgL qgL.under e aa.row (Nat.zero_le _) rfl (by first | rfl | omega | (simp; done) | (simp; omega)) c9 (fun d4 d5 d6 q a0 => ?_)
     have E := Apart.app (e.qa3 c (by decide)) a0 c.lt
     have c := c.app a0 (e.qa3 c (by decide))
     have ca := qec.app (b2).symm a0 aa
     have aa := aa.app a0 (b2).symm
     have v := E
     have d7 := ca
     have s := d.size
     have d := d.app a0 (fun g a => (qgK z a (fun a => (Or.inr a))))
     have e := q
     have p := Mov.trans z a0.blk s
     refine qaz el84 ([(⟨10, 3, 0, 0⟩ : D.Ins)] : List D.Ins) (fun _ => by kernel_rfl) rfl (fun d8 d9 ay az => ?_)
     have da := ay.qap c.lt
     have b3 := Own.qev e ay (Nat.le_refl _)
     have c := c.ext az
     have e := e.ext az
     have ab := ay.mono d.size
     have d := d.then az
     obtain ⟨cb, H⟩ := H
     refine qgW qgL qgL.under e ab.row (Nat.zero_le _) rfl (by first | rfl | omega | (simp; done) | (simp; omega)) cb (fun db dc dd q a1 => ?_)
     have E := Apart.app v a1 c.lt
     have c := c.app a1 v
     have cc := qec.app (b3).symm a1 ab
     have ab := ab.app a1 (b3).symm
     have v := E
     have de := cc
     have s := d.size
     have d := d.app a1 (fun g a => (qgK p a (fun a => (Or.inr a))))
     have e := q
     have p := Mov.trans p a1.blk s
     refine qaz el84 ([(⟨3, 0, 0, 1⟩ : D.Ins), (⟨1, 2, 1, 0⟩ : D.Ins), (⟨4, 3, 3, 2⟩ : D.Ins)] : List D.Ins) (fun _ => by kernel_rfl) rfl (fun df dg aA aB => ?_)
     have dh := aA.qap c.lt
     have b4 := Own.qev e aA (Nat.le_refl _)
     have c := c.ext aB
     have e := e.ext aB
     have ac := aA.mono d.size
     have d := d.then aB
     obtain ⟨cd, H⟩ := H
     refine qgW qgL qgL.under e ac.row (Nat.zero_le _) rfl (by first | rfl | omega | (simp; done) | (simp; omega)) cd (fun di dj dk q a2 => ?_)
     have E := Apart.app v a2 c.lt
     have c := c.app a2 v
     have ce := qec.app (b4).symm a2 ac
     have ac := ac.app a2 (b4).symm
     have v := E
     have dl := ce
     have s := d.size
     have d := d.app a2 (fun g a => (qgK p a (fun a => (Or.inr a))))
     have e := q
     have p := Mov.trans p a2.blk s
     refine qaz el84 ([(⟨11, 0, (((f ++ ([(⟨8, 3, 0, 0⟩ : D.Ins)] : List D.Ins))).length : Int), 0⟩ : D.Ins)] : List D.Ins) (fun _ => by kernel_rfl) rfl (fun dm dn aC aD => ?_)
     have dp := aC.qap c.lt
     have b5 := Own.qev e aC (Nat.le_refl _)
     have c := c.ext aD
     have e := e.ext aD
     have ad := aC.mono d.size
     have d := d.then aD
     obtain ⟨cf, H⟩ := H
     refine qgW qgL qgL.under e ad.row (Nat.zero_le _) rfl (by first | rfl | omega | (simp; done) | (simp; omega)) cf (fun cg ch dq q a3 => ?_)
     have E := Apart.app v a3 c.lt
     have c := c.app a3 v
     have ci := qec.app (b5).symm a3 ad
     have ad := ad.app a3 (b5).symm
     have v := E
     have dr := ci
     have s := d.size
     have d := d.app a3 (fun g a => (qgK p a (fun a => (Or.inr a))))
     have e := q
     have p := Mov.trans p a3.blk s
     obtain ⟨⟨aE, aF⟩, H⟩ := H
     obtain ⟨cj, ae, ds⟩ := Row.at e.row aE aF
     refine ⟨aE, aF, cj, ae, ?_⟩
     refine Own.storeAt e ae aE aF 2 [(iv ((((((f ++ ([(⟨8, 3, 0, 0⟩ : D.Ins)] : List D.Ins)) ++ ([(⟨10, 3, 0, 0⟩ : D.Ins)] : List D.Ins)) ++ ([(⟨3, 0, 0, 1⟩ : D.Ins), (⟨1, 2, 1, 0⟩ : D.Ins), (⟨4, 3, 3, 2⟩ : D.Ins)] : List D.Ins)) ++ ([(⟨11, 0, (((f ++ ([(⟨8, 3, 0, 0⟩ : D.Ins)] : List D.Ins))).length : Int), 0⟩ : D.Ins)] : List D.Ins))).length : Int))] (⟨(rd ((((f ++ ([(⟨8, 3, 0, 0⟩ : D.Ins)] : List D.Ins)) ++ ([(⟨10, 3, 0, 0⟩ : D.Ins)] : List D.Ins)) ++ ([(⟨3, 0, 0, 1⟩ : D.Ins), (⟨1, 2, 1, 0⟩ : D.Ins), (⟨4, 3, 3, 2⟩ : D.Ins)] : List D.Ins)) ++ ([(⟨11, 0, (((f ++ ([(⟨8, 3, 0, 0⟩ : D.Ins)] : List D.Ins))).length : Int), 0⟩ : D.Ins)] : List D.Ins)) (((f ++ ([(⟨8, 3, 0, 0⟩ : D.Ins)] : List D.Ins))).length : Int)).Op, (rd ((((f ++ ([(⟨8, 3, 0, 0⟩ : D.Ins)] : List D.Ins)) ++ ([(⟨10, 3, 0, 0⟩ : D.Ins)] : List D.Ins)) ++ ([(⟨3, 0, 0, 1⟩ : D.Ins), (⟨1, 2, 1, 0⟩ : D.Ins), (⟨4, 3, 3, 2⟩ : D.Ins)] : List D.Ins)) ++ ([(⟨11, 0, (((f ++ ([(⟨8, 3, 0, 0⟩ : D.Ins)] : List D.Ins))).length : Int), 0⟩ : D.Ins)] : List D.Ins)) (((f ++ ([(⟨8, 3, 0, 0⟩ : D.Ins)] : List D.Ins))).length : Int)).A, ((((((f ++ ([(⟨8, 3, 0, 0⟩ : D.Ins)] : List D.Ins)) ++ ([(⟨10, 3, 0, 0⟩ : D.Ins)] : List D.Ins)) ++ ([(⟨3, 0, 0, 1⟩ : D.Ins), (⟨1, 2, 1, 0⟩ : D.Ins), (⟨4, 3, 3, 2⟩ : D.Ins)] : List D.Ins)) ++ ([(⟨11, 0, (((f ++ ([(⟨8, 3, 0, 0⟩ : D.Ins)] : List D.Ins))).length : Int), 0⟩ : D.Ins)] : List D.Ins))).length : Int), (rd ((((f ++ ([(⟨8, 3, 0, 0⟩ : D.Ins)] : List D.Ins)) ++ ([(⟨10, 3, 0, 0⟩ : D.Ins)] : List D.Ins)) ++ ([(⟨3, 0, 0, 1⟩ : D.Ins), (⟨1, 2, 1, 0⟩ : D.Ins), (⟨4, 3, 3, 2⟩ : D.Ins)] : List D.Ins)) ++ ([(⟨11, 0, (((f ++ ([(⟨8, 3, 0, 0⟩ : D.Ins)] : List D.Ins))).length : Int), 0⟩ : D.Ins)] : List D.Ins)) (((f ++ ([(⟨8, 3, 0, 0⟩ : D.Ins)] : List D.Ins))).length : Int)).C⟩ : D.Ins) rfl (Nat.le_of_ble_eq_true rfl) rfl (fun dt q b6 du => ?_)
     have U := c.chg b6 (fun a => (v) _ ae a.symm)
     have c := U
     have d := d.chgb b6 (qgK p ⟨_, ae, rfl⟩ (fun a => (Or.inr a)))
     have e := q
     obtain ⟨ck, cl, cm⟩ := H
     exact ⟨ck, cl, (List.set ((((f ++ ([(⟨8, 3, 0, 0⟩ : D.Ins)] : List D.Ins)) ++ ([(⟨10, 3, 0, 0⟩ : D.Ins)] : List D.Ins)) ++ ([(⟨3, 0, 0, 1⟩ : D.Ins), (⟨1, 2, 1, 0⟩ : D.Ins), (⟨4, 3, 3, 2⟩ : D.Ins)] : List D.Ins)) ++ ([(⟨11, 0, (((f ++ ([(⟨8, 3, 0, 0⟩ : D.Ins)] : List D.Ins))).length : Int), 0⟩ : D.Ins)] : List D.Ins)) ((((f ++ ([(⟨8, 3, 0, 0⟩ : D.Ins)] : List D.Ins))).length : Int).toNat) (⟨(rd ((((f ++ ([(⟨8, 3, 0, 0⟩ : D.Ins)] : List D.Ins)) ++ ([(⟨10, 3, 0, 0⟩ : D.Ins)] : List D.Ins)) ++ ([(⟨3, 0, 0, 1⟩ : D.Ins), (⟨1, 2, 1, 0⟩ : D.Ins), (⟨4, 3, 3, 2⟩ : D.Ins)] : List D.Ins)) ++ ([(⟨11, 0, (((f ++ ([(⟨8, 3, 0, 0⟩ : D.Ins)] : List D.Ins))).length : Int), 0⟩ : D.Ins)] : List D.Ins)) (((f ++ ([(⟨8, 3, 0, 0⟩ : D.Ins)] : List D.Ins))).length : Int)).Op, (rd ((((f ++ ([(⟨8, 3, 0, 0⟩ : D.Ins)] : List D.Ins)) ++ ([(⟨10, 3, 0, 0⟩ : D.Ins)] : List D.Ins)) ++ ([(⟨3, 0, 0, 1⟩ : D.Ins), (⟨1, 2, 1, 0⟩ : D.Ins), (⟨4, 3, 3, 2⟩ : D.Ins)] : List D.Ins)) ++ ([(⟨11, 0, (((f ++ ([(⟨8, 3, 0, 0⟩ : D.Ins)] : List D.Ins))).length : Int), 0⟩ : D.Ins)] : List D.Ins)) (((f ++ ([(⟨8, 3, 0, 0⟩ : D.Ins)] : List D.Ins))).length : Int)).A, ((((((f ++ ([(⟨8, 3, 0, 0⟩ : D.Ins)] : List D.Ins)) ++ ([(⟨10, 3, 0, 0⟩ : D.Ins)] : List D.Ins)) ++ ([(⟨3, 0, 0, 1⟩ : D.Ins), (⟨1, 2, 1, 0⟩ : D.Ins), (⟨4, 3, 3, 2⟩ : D.Ins)] : List D.Ins)) ++ ([(⟨11, 0, (((f ++ ([(⟨8, 3, 0, 0⟩ : D.Ins)] : List D.Ins))).length : Int), 0⟩ : D.Ins)] : List D.Ins))).length : Int), (rd ((((f ++ ([(⟨8, 3, 0, 0⟩ : D.Ins)] : List D.Ins)) ++ ([(⟨10, 3, 0, 0⟩ : D.Ins)] : List D.Ins)) ++ ([(⟨3, 0, 0, 1⟩ : D.Ins), (⟨1, 2, 1, 0⟩ : D.Ins), (⟨4, 3, 3, 2⟩ : D.Ins)] : List D.Ins)) ++ ([(⟨11, 0, (((f ++ ([(⟨8, 3, 0, 0⟩ : D.Ins)] : List D.Ins))).length : Int), 0⟩ : D.Ins)] : List D.Ins)) (((f ++ ([(⟨8, 3, 0, 0⟩ : D.Ins)] : List D.Ins))).length : Int)).C⟩ : D.Ins)), (wrap .i64 (I - 1)), K.2.i, K.2.h, cg, ch, (by first | rfl | (simp only [bC, wC, List.length_set])), cm, d, (by first | exact e | (simp only [bC, wC, List.length_set]; exact e)), p, (by first | exact c | (simp only [bC, wC, List.length_set]; exact c))⟩
    obtain ⟨cn, H⟩ := H
    obtain ⟨Q, co, H⟩ := qaa H
    refine (qaG.con cn co c (G.chgS d n) O (fun o => (fun g a j => n o g a (Or.inl j)))).mono ?_
    rintro _ dv ⟨rfl, l, cp, b7⟩
    simp only [bC, wC, cp] at l
    have e := e.chgS b7 (qbT (e.qa3 c (by decide)))
    have d := d.chg b7 (fun g a => Or.inr (Or.inl a))
    have c := l
    refine ⟨Q.1.Op, trivial, Q.1.A, trivial, Q.1.B, trivial, Q.1.C, trivial, rfl, ?_⟩
    refine qaz el84 ([Q.1] : List D.Ins) (fun _ => by kernel_rfl) rfl (fun dw dx aG aH => ?_)
    have dy := aG.qap c.lt
    have b8 := Own.qev e aG (Nat.le_refl _)
    have c := c.ext aH
    have e := e.ext aH
    have af := aG.mono d.size
    have d := d.then aH
    obtain ⟨cq, H⟩ := H
    refine qgW qgL qgL.under e af.row (Nat.zero_le _) rfl (by first | rfl | omega | (simp; done) | (simp; omega)) cq (fun cr cs dz q a4 => ?_)
    have E := Apart.app (e.qa3 c (by decide)) a4 c.lt
    have c := c.app a4 (e.qa3 c (by decide))
    have ct := qec.app (b8).symm a4 af
    have af := af.app a4 (b8).symm
    have v := E
    have dA := ct
    have s := d.size
    have d := d.app a4 (fun g a => (qgK z a (fun a => (Or.inr a))))
    have e := q
    have p := Mov.trans z a4.blk s
    obtain ⟨cu, cv, cw⟩ := H
    exact ⟨cu, cv, (f ++ ([Q.1] : List D.Ins)), (wrap .i64 (I - 1)), Q.2.i, Q.2.h, cr, cs, rfl, cw, d, e, p, c⟩
   obtain rfl := hr.trans H.symm
   exact ⟨J, P, rfl, (e.mono (Nat.zero_le _)), z, c, rfl, d⟩
  obtain rfl := hr.trans H.symm
  exact ⟨J, P, rfl, (e.mono (Nat.zero_le _)), z, c, rfl, d⟩

theorem qb3.con {a : D.Cur} {c k o : Nat} {f d : OA} {j : List D.Ins} {l : Int} {r : (List D.Ins) × D.Cur} {w : World} (q : M.qdZ a j l) (s : r = M.qb3 a j l) (t : Blk w c 129 #[(sv f a.b.length k), (iv a.i), (iv a.h)]) (u : Row el5 w f a.b) (v : a.b.length ≤ k) (x : Own el84 w 0 d o j) (y : a.b ≠ [] → ∀ g, InB f g → ¬ (fun e => e = c ∨ InB d e) g) :
    Cl 141 #[(.pointer (some (bx c))), (sv d j.length o), (iv l)] w (fun z m => ∃ (n : OA) (p : Nat), z = (sv n r.1.length p) ∧ Own el84 m 0 n p r.1 ∧ Mov w d n ∧ Blk m c 129 #[(sv f r.2.b.length k), (iv r.2.i), (iv r.2.h)] ∧ r.2.b = a.b ∧ Chg (fun e => e = c ∨ InB d e) w m) := qb3.con_ _ q s t u v x y rfl
def qbQ.vc (c : Addr) (w : World) (K : VK) : Prop :=
  newK w (.cells #[(iv 0), (iv 0), (iv 0), (iv 0)] 84) fun a j => Run Tryz.prog (Instr.buildSlice 24 3 #[(0, (iv 13)), (1, (iv 14)), (2, (iv 15))]) j fun k l => ∃ (d : OA) (e f : Nat), k = .slice d e f ∧ Cl 140 #[(.pointer (some c)), (sv d e f)] l fun m n => (∃ (g : Int), m = (iv g) ∧ Cl 67 #[(.pointer (some c)), (iv 4)] n fun o p => (∃ (h : Int), o = (iv h) ∧ Cl 67 #[(.pointer (some c)), (iv 4)] p fun q r => (∃ (i : Int), q = (iv i) ∧ qa5 (bx a) [(iv g), (iv h), (iv i), (iv 0)] 0 r fun b => ldI b ((bx a).add 0) fun s => ldI b ((bx a).add 1) fun t => ldI b ((bx a).add 2) fun u => ldI b ((bx a).add 3) fun v => K (.agg #[(iv s), (iv t), (iv u), (iv v)]) b)))

def qbQ.ann : Ann := (.seq .l (.seq .l .l))

theorem qbQ.con {f : D.Cur} {k v : Nat} {s : OA} {r : D.Ins × D.Cur} {w : World} (O : M.qfA f) (P : r = M.qbQ f) (d : Blk w k 129 #[(sv s f.b.length v), (iv f.i), (iv f.h)]) (x : Row el5 w s f.b) (y : f.b.length ≤ v) (l : f.b ≠ [] → ∀ g, InB s g → ¬ (fun n => n = k) g) :
    Cl 142 #[(.pointer (some (bx k)))] w (fun Q A => Q = (.agg (iC r.1)) ∧ Blk A k 129 #[(sv s r.2.b.length v), (iv r.2.i), (iv r.2.h)] ∧ r.2.b = f.b ∧ Chg (fun n => n = k) w A) := by
 have H := wp.qbQ.math f O
 have c := Chg.refl (fun n => n = k) w
 refine begK mixed Tryz.f142 ann (vc (bx k)) ?_
 unfold vc
 unfold wp.qbQ at H
 refine qaL (fun a2 a3 t R B => ?_)
 have u := d.ne t
 have d := d.ext B
 have t := Nat.le_trans c.size t
 have c := c.then B
 refine qaz el3 ([13, 14, 15] : List Int) (fun _ => by kernel_rfl) rfl (fun a4 a5 C z => ?_)
 have S := C.qap d.lt
 have d := d.ext z
 have E := C.mono c.size
 have c := c.then z
 obtain ⟨T, H⟩ := H
 obtain ⟨F, U, H⟩ := qaa H
 refine (cllA (qau.con T U d (x.chgS c l) y E.row E.le (fun p => (fun g e q => l p g e q)) (fun _ => (qbT S)))).mono ?_
 rintro _ a6 ⟨rfl, j, V, G⟩
 simp only [bC, wC, V] at j
 have c := c.chg G (fun g e => Or.inr e)
 have d := j
 refine ⟨F.1, rfl, ?_⟩
 obtain ⟨W, H⟩ := H
 obtain ⟨I, X, H⟩ := qaa H
 refine (qa0.con W X d (x.chgS c l) y (fun p => (fun g e q => l p g e q))).mono ?_
 rintro _ a7 ⟨rfl, j, Y, J⟩
 simp only [bC, wC, Y] at j
 have c := c.chg J (fun g e => Or.inr e)
 have d := j
 refine ⟨I.1, rfl, ?_⟩
 obtain ⟨Z, H⟩ := H
 obtain ⟨K, a0, H⟩ := qaa H
 refine (qa0.con Z a0 d (x.chgS c l) y (fun p => (fun g e q => l p g e q))).mono ?_
 rintro _ a8 ⟨rfl, j, a1, L⟩
 simp only [bC, wC, a1] at j
 have m := (((R.ext z).chgS G ((u).symm)).chgS J ((u).symm)).chgS L ((u).symm)
 refine ⟨K.1, rfl, ?_⟩
 refine qda m (o := 0) (cs' := #[(iv F.1), (iv I.1), (iv K.1), (iv 0)]) rfl rfl (Nat.le_of_ble_eq_true rfl) rfl (fun a9 m N => ?_)
 have d := j.chg N u
 have c := (c.chg L (fun g e => Or.inr e)).chgb N (Or.inl t)
 refine ⟨_, (m.a 0), _, (m.a 1), _, (m.a 2), _, (m.a 3), ?_⟩
 cases P.trans H.symm
 exact ⟨rfl, d, rfl, c⟩
def qa8.vc (b : Addr) (w : World) (K : VK) : Prop :=
  Run Tryz.prog (Instr.buildSlice 30 1 #[(0, (.agg #[(iv 8), (iv 0), (iv 0), (iv 0)]))]) w fun ae af => ∃ (g : OA) (h i : Nat), ae = .slice g h i ∧ Cl 67 #[(.pointer (some b)), (iv 5)] af fun ag ah => (∃ (j : Int), ag = (iv j) ∧ qdh (σ := (OA × Nat × Nat) × Int × Unit) (fun a f c => qa1 (decide (a.2.1 > 0)) (qa1 (decide ((wrap .i64 (((a.1.2.1 : Nat) : Int) + 4)) ≤ 32)) (Cl 67 #[(.pointer (some b)), (iv 7)] f fun ai d => (∃ (e : Int), ai = (iv e) ∧ qa1 (e == 0) (Run Tryz.prog (Instr.buildSlice 30 1 #[(0, (.agg #[(iv 16), (iv 0), (iv 0), (iv 0)]))]) d fun aj ak => ∃ (k : OA) (l m : Nat), aj = .slice k l m ∧ Run Tryz.prog (Builtin.append_ #[30, 30] 30 #[(sv a.1.1 a.1.2.1 a.1.2.2), (sv k l m)]) ak fun al am => ∃ (n : OA) (o p : Nat), al = .slice n o p ∧ c ((n, o, p), (wrap .i64 (a.2.1 - 1)), ()) am) (qa1 (e == 1) (Cl 67 #[(.pointer (some b)), (iv 4)] d fun an ao => (∃ (q : Int), an = (iv q) ∧ Run Tryz.prog (Instr.buildSlice 30 2 #[(0, (.agg #[(iv 8), (iv 0), (iv 0), (iv 0)])), (1, (.agg #[(iv 14), (iv 0), (iv q), (iv 0)]))]) ao fun ap aq => ∃ (r : OA) (s t : Nat), ap = .slice r s t ∧ Run Tryz.prog (Builtin.append_ #[30, 30] 30 #[(sv a.1.1 a.1.2.1 a.1.2.2), (sv r s t)]) aq fun ar au => ∃ (u : OA) (v x : Nat), ar = .slice u v x ∧ c ((u, v, x), (wrap .i64 (a.2.1 - 1)), ()) au)) (qa1 (e == 2) (Run Tryz.prog (Instr.buildSlice 24 3 #[(0, (iv 1)), (1, (iv 8)), (2, (iv 31))]) d fun av aw => ∃ (y : OA) (z A : Nat), av = .slice y z A ∧ Cl 140 #[(.pointer (some b)), (sv y z A)] aw fun ax ay => (∃ (B : Int), ax = (iv B) ∧ Run Tryz.prog (Instr.buildSlice 30 4 #[(0, (.agg #[(iv 1), (iv 1), (iv B), (iv 0)])), (1, (.agg #[(iv 8), (iv 0), (iv 0), (iv 0)])), (2, (.agg #[(iv 3), (iv 0), (iv 0), (iv 1)])), (3, (.agg #[(iv 13), (iv 2), (iv 0), (iv 0)]))]) ay fun az aA => ∃ (C : OA) (D E : Nat), az = .slice C D E ∧ Run Tryz.prog (Builtin.append_ #[30, 30] 30 #[(sv a.1.1 a.1.2.1 a.1.2.2), (sv C D E)]) aA fun aB aC => ∃ (F : OA) (G H : Nat), aB = .slice F G H ∧ c ((F, G, H), (wrap .i64 (a.2.1 - 1)), ()) aC)) (qa1 (e == 3) (Cl 67 #[(.pointer (some b)), (iv 8)] d fun aD aE => (∃ (I : Int), aD = (iv I) ∧ Cl 67 #[(.pointer (some b)), (iv 4)] aE fun aF aG => (∃ (J : Int), aF = (iv J) ∧ Run Tryz.prog (Instr.buildSlice 30 2 #[(0, (.agg #[(iv 1), (iv 1), (iv (wrap .i64 (24 + I))), (iv 0)])), (1, (.agg #[(iv 15), (iv 1), (iv J), (iv 0)]))]) aG fun aH aI => ∃ (L : OA) (M N : Nat), aH = .slice L M N ∧ Run Tryz.prog (Builtin.append_ #[30, 30] 30 #[(sv a.1.1 a.1.2.1 a.1.2.2), (sv L M N)]) aI fun aJ aK => ∃ (O : OA) (P Q : Nat), aJ = .slice O P Q ∧ c ((O, P, Q), (wrap .i64 (a.2.1 - 1)), ()) aK))) (qa1 (e == 4) (qa1 (decide (((a.1.2.1 : Nat) : Int) < 12)) (Cl 141 #[(.pointer (some b)), (sv a.1.1 a.1.2.1 a.1.2.2), (iv 1)] d fun aL aM => (∃ (R : OA) (S T : Nat), aL = (sv R S T) ∧ c ((R, S, T), (wrap .i64 (a.2.1 - 1)), ()) aM)) (c ((a.1.1, a.1.2.1, a.1.2.2), (wrap .i64 (a.2.1 - 1)), ()) d)) (qa1 (e == 5) (Cl 142 #[(.pointer (some b))] d fun aN aO => (∃ (U : Int), True ∧ ∃ (V : Int), True ∧ ∃ (W : Int), True ∧ ∃ (X : Int), True ∧ aN = (.agg #[(iv U), (iv V), (iv W), (iv X)]) ∧ Run Tryz.prog (Instr.buildSlice 30 1 #[(0, (.agg #[(iv U), (iv V), (iv W), (iv X)]))]) aO fun aP aQ => ∃ (Y : OA) (Z a0 : Nat), aP = .slice Y Z a0 ∧ Run Tryz.prog (Builtin.append_ #[30, 30] 30 #[(sv a.1.1 a.1.2.1 a.1.2.2), (sv Y Z a0)]) aQ fun aR aS => ∃ (a1 : OA) (a2 a3 : Nat), aR = .slice a1 a2 a3 ∧ c ((a1, a2, a3), (wrap .i64 (a.2.1 - 1)), ()) aS)) (Cl 143 #[(.pointer (some b))] d fun aT aU => (∃ (a4 : Int), True ∧ ∃ (a5 : Int), True ∧ ∃ (a6 : Int), True ∧ ∃ (a7 : Int), True ∧ aT = (.agg #[(iv a4), (iv a5), (iv a6), (iv a7)]) ∧ Run Tryz.prog (Instr.buildSlice 30 1 #[(0, (.agg #[(iv a4), (iv a5), (iv a6), (iv a7)]))]) aU fun aV aW => ∃ (a8 : OA) (a9 aa : Nat), aV = .slice a8 a9 aa ∧ Run Tryz.prog (Builtin.append_ #[30, 30] 30 #[(sv a.1.1 a.1.2.1 a.1.2.2), (sv a8 a9 aa)]) aW fun aX aY => ∃ (ab : OA) (ac ad : Nat), aX = .slice ab ac ad ∧ c ((ab, ac, ad), (wrap .i64 (a.2.1 - 1)), ()) aY))))))))) (K (sv a.1.1 a.1.2.1 a.1.2.2) f)) (K (sv a.1.1 a.1.2.1 a.1.2.2) f)) ((g, h, i), (wrap .i64 (1 + j)), ()) ah)

def qa8.ann : Ann := (.seq .l (.seq .l (.seq (.seq .l (.one (.loop [(3, .sl), (4, .int .i64)] (.seq (.seq .l (.two .l .l)) (.seq (.one (.seq .l (.one (.seq .l (.two .l (.seq .l (.two .l (.seq .l (.two .l (.seq .l (.two .l (.seq .l (.two (.seq .l (.two .l .l)) (.seq .l (.two .l .l))))))))))))))) .l))))) (.seq .l .l))))

theorem qa8.con {m : D.Cur} {p F : Nat} {x : OA} {r : (List D.Ins) × D.Cur} {w : World} (hp : M.qfq m) (U : r = M.qa8 m) (d : Blk w p 129 #[(sv x m.b.length F), (iv m.i), (iv m.h)]) (o : Row el5 w x m.b) (q : m.b.length ≤ F) (k : m.b ≠ [] → ∀ g, InB x g → ¬ (fun s => s = p) g) :
    Cl 85 #[(.pointer (some (bx p)))] w (fun v_ t => ∃ (V : OA) (W : Nat), v_ = (sv V r.1.length W) ∧ Own el84 t w.heap.size V W r.1 ∧ Blk t p 129 #[(sv x r.2.b.length F), (iv r.2.i), (iv r.2.h)] ∧ r.2.b = m.b ∧ Chg (fun s => s = p) w t) := by
 have H := wp.qa8.math m hp
 have a := Chg.refl (fun s => s = p) w
 refine begK mixed Tryz.f85 ann (vc (bx p)) ?_
 unfold vc
 unfold wp.qa8 at H
 refine qaz el84 ([(⟨8, 0, 0, 0⟩ : D.Ins)] : List D.Ins) (fun _ => by kernel_rfl) rfl (fun al bT X Y => ?_)
 have am := X.qap d.lt
 have d := d.ext Y
 have I := X.mono a.size
 have a := a.then Y
 obtain ⟨an, H⟩ := H
 obtain ⟨G, ao, H⟩ := qaa H
 refine (qa0.con an ao d (o.chgS a k) q (fun l => (fun g e j => k l g e j))).mono ?_
 rintro _ bU ⟨rfl, f, ap, Z⟩
 simp only [bC, wC, ap] at f
 have I := I.chgS Z (qbT am)
 have a := a.chg Z (fun g e => Or.inr e)
 have d := f
 refine ⟨G.1, rfl, ?_⟩
 obtain ⟨aq, ⟨ar, au⟩, a0⟩ := H
 refine ⟨fun m_ z_ t => ∃ (y : List D.Ins) (J K L : Int) (u : OA) (v : Nat), z_ = ((u, y.length, v), J, ()) ∧ aq m_ (y, J, K, L, ()) ∧ Chg (fun s => s = p) w t ∧ Own el84 t w.heap.size u v y ∧ Blk t p 129 #[(sv x m.b.length F), (iv K), (iv L)], ⟨ar, ([(⟨8, 0, 0, 0⟩ : D.Ins)] : List D.Ins), (wrap .i64 (1 + G.1)), G.2.i, G.2.h, al, 1, rfl, au, a, I, d⟩, ?_⟩
 rintro av _ bV ⟨y, J, K, L, u, v, rfl, a1, a, c, d⟩
 have H := a0 av _ a1
 clear a0 a1
 try dsimp only at H ⊢
 apply brc H<;>intro h H
 ·apply brc H<;>intro h H
  ·obtain ⟨aw, H⟩ := H
   obtain ⟨ax, ay, H⟩ := qaa H
   refine (qa0.con aw ay d (o.chgS a k) q (fun l => (fun g e j => k l g e j))).mono ?_
   rintro _ bW ⟨rfl, f, az, a2⟩
   simp only [bC, wC, az] at f
   have c := c.chgS a2 (qbT (c.qa3 d (by decide)))
   have a := a.chg a2 (fun g e => Or.inr e)
   have d := f
   refine ⟨ax.1, rfl, ?_⟩
   apply brc H<;>intro h H
   ·refine qaz el84 ([(⟨16, 0, 0, 0⟩ : D.Ins)] : List D.Ins) (fun _ => by kernel_rfl) rfl (fun bX bY P7 N => ?_)
    have d := d.ext N
    have c := c.ext N
    have O7 := P7.mono a.size
    have a := a.then N
    obtain ⟨aA, H⟩ := H
    refine appO qgL c O7.row a.size aA (fun aB aC bZ n a3 => ?_)
    have d := d.app a3 (c.qa3 d (by decide))
    have a := a.app a3 (fun g e => Or.inl (c.low g e))
    have c := n
    obtain ⟨aD, aE, aF⟩ := H
    exact ⟨aD, aE, _, _, _, _, aB, aC, rfl, aF, a, c, d⟩
   apply brc H<;>intro h H
   ·obtain ⟨aG, H⟩ := H
    obtain ⟨a4, aH, H⟩ := qaa H
    refine (qa0.con aG aH d (o.chgS a k) q (fun l => (fun g e j => k l g e j))).mono ?_
    rintro _ c0 ⟨rfl, f, aI, a5⟩
    simp only [bC, wC, aI] at f
    have c := c.chgS a5 (qbT (c.qa3 d (by decide)))
    have a := a.chg a5 (fun g e => Or.inr e)
    refine ⟨a4.1, rfl, ?_⟩
    refine qaz el84 ([(⟨8, 0, 0, 0⟩ : D.Ins), (⟨14, 0, a4.1, 0⟩ : D.Ins)] : List D.Ins) (fun _ => by kernel_rfl) rfl (fun c1 c2 P8 O => ?_)
    have d := f.ext O
    have c := c.ext O
    have O8 := P8.mono a.size
    have a := a.then O
    obtain ⟨aJ, H⟩ := H
    refine appO qgL c O8.row a.size aJ (fun aK aL c3 n a6 => ?_)
    have d := d.app a6 (c.qa3 d (by decide))
    have a := a.app a6 (fun g e => Or.inl (c.low g e))
    have c := n
    obtain ⟨aM, aN, aO⟩ := H
    exact ⟨aM, aN, _, _, _, _, aK, aL, rfl, aO, a, c, d⟩
   apply brc H<;>intro h H
   ·refine qaz el3 ([1, 8, 31] : List Int) (fun _ => by kernel_rfl) rfl (fun c4 c5 P9 P => ?_)
    have aP := P9.qap d.lt
    have d := d.ext P
    have c := c.ext P
    have O9 := P9.mono a.size
    have a := a.then P
    obtain ⟨aQ, H⟩ := H
    obtain ⟨a7, aR, H⟩ := qaa H
    refine (cllA (qau.con aQ aR d (o.chgS a k) q O9.row O9.le (fun l => (fun g e j => k l g e j)) (fun _ => (qbT aP)))).mono ?_
    rintro _ c6 ⟨rfl, f, aS, a8⟩
    simp only [bC, wC, aS] at f
    have c := c.chgS a8 (qbT (c.qa3 d (by decide)))
    have a := a.chg a8 (fun g e => Or.inr e)
    refine ⟨a7.1, rfl, ?_⟩
    refine qaz el84 ([(⟨1, 1, a7.1, 0⟩ : D.Ins), (⟨8, 0, 0, 0⟩ : D.Ins), (⟨3, 0, 0, 1⟩ : D.Ins), (⟨13, 2, 0, 0⟩ : D.Ins)] : List D.Ins) (fun _ => by kernel_rfl) rfl (fun c7 c8 aT Q => ?_)
    have d := f.ext Q
    have c := c.ext Q
    have aU := aT.mono a.size
    have a := a.then Q
    obtain ⟨aV, H⟩ := H
    refine appO qgL c aU.row a.size aV (fun aW aX c9 n a9 => ?_)
    have d := d.app a9 (c.qa3 d (by decide))
    have a := a.app a9 (fun g e => Or.inl (c.low g e))
    have c := n
    obtain ⟨aY, aZ, b0⟩ := H
    exact ⟨aY, aZ, _, _, _, _, aW, aX, rfl, b0, a, c, d⟩
   apply brc H<;>intro h H
   ·obtain ⟨b1, H⟩ := H
    obtain ⟨aa, b2, H⟩ := qaa H
    refine (qa0.con b1 b2 d (o.chgS a k) q (fun l => (fun g e j => k l g e j))).mono ?_
    rintro _ ca ⟨rfl, f, b3, ab⟩
    simp only [bC, wC, b3] at f
    have c := c.chgS ab (qbT (c.qa3 d (by decide)))
    have a := a.chg ab (fun g e => Or.inr e)
    have d := f
    refine ⟨aa.1, rfl, ?_⟩
    obtain ⟨b4, H⟩ := H
    obtain ⟨ac, b5, H⟩ := qaa H
    refine (qa0.con b4 b5 d (o.chgS a k) q (fun l => (fun g e j => k l g e j))).mono ?_
    rintro _ cb ⟨rfl, f, b6, ad⟩
    simp only [bC, wC, b6] at f
    have c := c.chgS ad (qbT (c.qa3 d (by decide)))
    have a := a.chg ad (fun g e => Or.inr e)
    refine ⟨ac.1, rfl, ?_⟩
    refine qaz el84 ([(⟨1, 1, (wrap .i64 (24 + aa.1)), 0⟩ : D.Ins), (⟨15, 1, ac.1, 0⟩ : D.Ins)] : List D.Ins) (fun _ => by kernel_rfl) rfl (fun cc cd b7 R => ?_)
    have d := f.ext R
    have c := c.ext R
    have b8 := b7.mono a.size
    have a := a.then R
    obtain ⟨b9, H⟩ := H
    refine appO qgL c b8.row a.size b9 (fun ba bb ce n ae => ?_)
    have d := d.app ae (c.qa3 d (by decide))
    have a := a.app ae (fun g e => Or.inl (c.low g e))
    have c := n
    obtain ⟨bc, bd, be⟩ := H
    exact ⟨bc, bd, _, _, _, _, ba, bb, rfl, be, a, c, d⟩
   apply brc H<;>intro h H
   ·apply brc H<;>intro h H
    ·obtain ⟨bf, H⟩ := H
     obtain ⟨bg, bh, H⟩ := qaa H
     refine (qb3.con bf bh d (o.chgS a k) q (c.mono (Nat.zero_le _)) (fun l => (fun g e => (fun j => j.elim ((fun g e j => k l g e j) g e) ((fun g e j => Nat.not_le.2 (o.old l g e) (c.low g j)) g e))))).mono ?_
     rintro _ cf ⟨af, ag, rfl, bi, bj, f, bk, bl⟩
     simp only [bC, wC, bk] at f
     have bm := bj.low c.low a.size
     have a := a.chg bl (fun g => (fun j => j.elim ((fun g e => Or.inr e) g) ((fun g e => Or.inl (c.low g e)) g)))
     have d := f
     have bn := bi.lift bm
     refine ⟨af, bg.1.length, ag, rfl, ?_⟩
     obtain ⟨bo, bp, bq⟩ := H
     exact ⟨bo, bp, _, _, _, _, af, ag, rfl, bq, a, bn, d⟩
    obtain ⟨br, bs, bt⟩ := H
    exact ⟨br, bs, y, _, _, _, u, v, rfl, bt, a, c, d⟩
   apply brc H<;>intro h H
   ·obtain ⟨bu, H⟩ := H
    obtain ⟨z, bv, H⟩ := qaa H
    refine (qbQ.con bu bv d (o.chgS a k) q (fun l => (fun g e j => k l g e j))).mono ?_
    rintro _ cg ⟨rfl, f, bw, ah⟩
    simp only [bC, wC, bw] at f
    have c := c.chgS ah (qbT (c.qa3 d (by decide)))
    have a := a.chg ah (fun g e => Or.inr e)
    refine ⟨z.1.Op, trivial, z.1.A, trivial, z.1.B, trivial, z.1.C, trivial, rfl, ?_⟩
    refine qaz el84 ([z.1] : List D.Ins) (fun _ => by kernel_rfl) rfl (fun ch ci bz S => ?_)
    have d := f.ext S
    have c := c.ext S
    have bA := bz.mono a.size
    have a := a.then S
    obtain ⟨bB, H⟩ := H
    refine appO qgL c bA.row a.size bB (fun bD bE cj n ai => ?_)
    have d := d.app ai (c.qa3 d (by decide))
    have a := a.app ai (fun g e => Or.inl (c.low g e))
    have c := n
    obtain ⟨bF, bG, bH⟩ := H
    exact ⟨bF, bG, _, _, _, _, bD, bE, rfl, bH, a, c, d⟩
   obtain ⟨bI, H⟩ := H
   obtain ⟨E, bJ, H⟩ := qaa H
   refine (qaG.con bI bJ d (o.chgS a k) q (fun l => (fun g e j => k l g e j))).mono ?_
   rintro _ ck ⟨rfl, f, bK, aj⟩
   simp only [bC, wC, bK] at f
   have c := c.chgS aj (qbT (c.qa3 d (by decide)))
   have a := a.chg aj (fun g e => Or.inr e)
   refine ⟨E.1.Op, trivial, E.1.A, trivial, E.1.B, trivial, E.1.C, trivial, rfl, ?_⟩
   refine qaz el84 ([E.1] : List D.Ins) (fun _ => by kernel_rfl) rfl (fun cl cm bL T => ?_)
   have d := f.ext T
   have c := c.ext T
   have bM := bL.mono a.size
   have a := a.then T
   obtain ⟨bN, H⟩ := H
   refine appO qgL c bM.row a.size bN (fun bO bP cn n ak => ?_)
   have d := d.app ak (c.qa3 d (by decide))
   have a := a.app ak (fun g e => Or.inl (c.low g e))
   have c := n
   obtain ⟨bQ, bR, bS⟩ := H
   exact ⟨bQ, bR, _, _, _, _, bO, bP, rfl, bS, a, c, d⟩
  cases U.trans H.symm
  exact ⟨u, v, rfl, c, d, rfl, a⟩
 cases U.trans H.symm
 exact ⟨u, v, rfl, c, d, rfl, a⟩
def qcc.vc (G : OA) (H I : Nat) (J : OA) (L M : Nat) (N : OA) (O P : Nat) (Q R d : Int) (w : World) (K : VK) : Prop :=
  newK w (.cells (vB G H I J L M N O P Q R) 33) fun c S => newK S (.cells zC 33) fun r s => ldB s (bx c) fun T U V W X Y Z a0 a1 a2 a3 => Cl 98 #[(.agg (vB T U V W X Y Z a0 a1 a2 a3)), (iv d)] s fun a4 a5 => (∃ (t : Int), True ∧ ∃ (u : Int), True ∧ ∃ (v : Int), True ∧ ∃ (x : Int), True ∧ a4 = (.agg #[(iv t), (iv u), (iv v), (iv x)]) ∧ newK a5 (.cells #[(iv 0), (iv 0), (iv 0), (iv 0)] 84) fun f a6 => qa5 (bx f) [(iv t), (iv u), (iv v), (iv x)] 0 a6 fun g => ldS g (((bx c).add 1).add 0) fun a7 a8 b4 => (idx d a8 a7 fun k => ldI g ((k.add ((d.toNat) * 3)).add 0) fun a9 => ldS g ((k.add ((d.toNat) * 3)).add 1) fun aa ab ac => ldS g ((k.add ((d.toNat) * 3)).add 2) fun ad ae af => Cl 100 #[(.agg #[(iv a9), (sv aa ab ac), (sv ad ae af)])] g fun ag l => (∃ (y : Int), ag = (iv y) ∧ ldS l (((bx c).add 1).add 0) fun ah ai b5 => (idx d ai ah fun aj => ldS l (((aj.add ((d.toNat) * 3)).add 2).add 0) fun m n b6 => qdh (σ := Int × Unit) (fun b o h => qa1 (decide (b.1 < 8)) (Cl 101 #[(iv y), (iv b.1)] o fun ak a => (∃ (z : Bool), ak = (.bool z) ∧ qa1 (!z) (h ((wrap .i64 (b.1 + 1)), ()) a) (ldI a (((bx f).add 1).add 0) fun A => (idx (wrap .i64 ((wrap .i64 (b.1 * 4)) + A)) n m fun al => ldI a ((al.add (((wrap .i64 ((wrap .i64 (b.1 * 4)) + A)).toNat) * 1)).add 0) fun e => ldI a (((bx f).add 2).add 0) fun B => (idx (wrap .i64 ((wrap .i64 (b.1 * 4)) + B)) n m fun am => ldI a ((am.add (((wrap .i64 ((wrap .i64 (b.1 * 4)) + B)).toNat) * 1)).add 0) fun i => ldI a (((bx f).add 0).add 0) fun p => qa1 (p == 13) ((∃ q : Nat → Prop, ldIM q a ((bx f).add 1) 0 fun C => ldSM q a ((bx c).add 2) 0 fun an ao b7 => ((32 : Int) ≠ 0 ∧ (idx (Int.tmod i 32) ao an fun ap => ldIM q a (ap.add (((Int.tmod i 32).toNat) * 1)) 0 fun aq => (idx (wrap .i64 ((wrap .i64 (b.1 * 4)) + C)) n m fun ar => qa5 (ar.add (((wrap .i64 ((wrap .i64 (b.1 * 4)) + C)).toNat) * 1)) [(iv aq)] 0 a.drew fun au => h ((wrap .i64 (b.1 + 1)), ()) au))))) (qa1 (p == 14) (ldS a (((bx c).add 2).add 0) fun av aw b8 => ((32 : Int) ≠ 0 ∧ (idx (Int.tmod e 32) aw av fun ax => qa5 (ax.add (((Int.tmod e 32).toNat) * 1)) [(iv i)] 0 a fun ay => h ((wrap .i64 (b.1 + 1)), ()) ay))) (qa1 (p == 15) ((∃ j : Nat → Prop, ldSM j a ((bx c).add 2) 0 fun az aA b9 => ((32 : Int) ≠ 0 ∧ ldSM j a ((bx c).add 2) 0 fun aB aC ba => ((32 : Int) ≠ 0 ∧ (idx (Int.tmod e 32) aC aB fun aD => ldIM j a (aD.add (((Int.tmod e 32).toNat) * 1)) 0 fun aE => Cl 224 #[(iv aE), (iv i)] a.drew fun aF D => (∃ (E : Int), aF = (iv E) ∧ qab j a D ∧ (idx (Int.tmod e 32) aA az fun aG => qa5 (aG.add (((Int.tmod e 32).toNat) * 1)) [(iv E)] 0 D fun aH => h ((wrap .i64 (b.1 + 1)), ()) aH))))))) (h ((wrap .i64 (b.1 + 1)), ()) a)))))))) (ldB o (bx c) fun aI aJ aK aL aM aN aO aP aQ aR aS => qa5 (bx r) [(sv aI aJ aK), (sv aL aM aN), (sv aO aP aQ), (iv aR), (iv aS)] 0 o fun F => ldB F (bx r) fun aT aU aV aW aX aY aZ b0 b1 b2 b3 => K (.agg (vB aT aU aV aW aX aY aZ b0 b1 b2 b3)) F)) (0, ()) l))))

def qcc.ann : Ann := (.seq .l (.seq .l (.seq .l (.seq .l (.seq (.seq .l (.one (.loop [(8, .int .i64)] (.seq (.seq .l (.two .l .l)) (.seq (.one (.seq (.seq .l (.two .l .l)) (.seq .l (.seq .l (.seq .l (.one (.seq .l (.two .l (.seq .l (.two .l (.seq .l (.two .l .l)))))))))))) .l))))) (.seq .l .l))))))

theorem qcc.con {l : D.Block} {S q s : OA} {U K L : Nat} {G : Nat → Prop} {u : Int} {r : D.Block × (List D.Warp) × (List Int)} {w : World} (hp : M.qfE l u) (hr : r = M.qcc l u) (aK : Row el84 w S l.Code) (aL : l.Code.length ≤ U) (v : OwnW 52 el91 el3 w 0 G q K l.Warps) (d : Own el3 w 0 s L l.Memory) (ao : Dis (InW q G) (InB s)) (aM : l.Code ≠ [] → ∀ g, InB S g → ¬ (fun x => InW q G x ∨ InB s x) g) :
    Cl 201 #[(.agg (bC S U q K s L l)), (iv u)] w (fun v_ t => v_ = (.agg #[(sv S l.Code.length U), (sv q l.Warps.length K), (sv s l.Memory.length L), (iv r.1.Waiting), (iv r.1.Phase)]) ∧ OwnW 52 el91 el3 t 0 G q K r.2.1 ∧ r.2.1.length = l.Warps.length ∧ Own el3 t 0 s L r.2.2 ∧ r.2.2.length = l.Memory.length ∧ Chg (fun x => InW q G x ∨ InB s x) w t) := by
 have H := wp.qcc.math l u hp
 refine begK mixed Tryz.f201 ann (vc S l.Code.length U q l.Warps.length K s l.Memory.length L l.Waiting l.Phase u) ?_
 unfold vc
 unfold wp.qcc at H
 have aN := MovW.refl w (InW q G)
 refine qaL (fun aO bL L4 c a9 => ?_)
 have ap := d.qaD L4
 have d := d.ext a9
 have m := (Chg.refl (fun x => InW q G x ∨ InB s x) w).then a9
 refine qaL (fun aP bM L5 P5 a4 => ?_)
 have aa := d.qaD L5
 have v := (v.ext a9).ext a4
 have d := d.ext a4
 have c := c.ext a4
 have L5 := Nat.le_trans m.size L5
 have m := m.then a4
 refine ⟨_, _, _, (c.a 0), _, _, _, (c.a 1), _, _, _, (c.a 2), _, (c.a 3), _, (c.a 4), ?_⟩
 obtain ⟨aQ, H⟩ := H
 obtain ⟨N, aR, H⟩ := qaa H
 refine (qcs.con aQ aR (aK.chgS m aM) aL v.row v.le d.row d.le).mono ?_
 rintro _ bN ⟨rfl, Z⟩
 have v := v.ext Z
 have d := d.ext Z
 have c := c.ext Z
 have i := P5.ext Z
 have m := m.then Z
 refine ⟨N.Op, trivial, N.A, trivial, N.B, trivial, N.C, trivial, rfl, ?_⟩
 refine qaL (fun aS bO T P6 a0 => ?_)
 have aT := v.qdp T
 have ab := d.qaD T
 have aU := c.ne T
 have aV := i.ne T
 have d := d.ext a0
 have c := c.ext a0
 have n := P6
 have T := Nat.le_trans m.size T
 refine qda n (o := 0) (cs' := (iC N)) rfl rfl (Nat.le_of_ble_eq_true rfl) rfl (fun bP n a1 => ?_)
 have v := (v.ext a0).chg a1 aT
 have aW := d.chg a1 ab
 have aX := c.chg a1 aU
 have c := aX
 refine ⟨_, _, _, (c.a 1), ?_⟩
 obtain ⟨⟨aq, ar⟩, H⟩ := H
 obtain ⟨ac, aY, au, av, aw, ad, ax, ay, aZ, ae, az, b0, e, k, f, p, a5, b1, aA, bQ, L7⟩ := OwnW.focus v aq ar (by decide) (by decide) (by decide)
 have O := aN.sub (qkd a5)
 have aB := qe3 ao (qge a5)
 have af := qiQ (qe3 ao (qkd a5))
 refine ⟨aq, ar, (⟨ac, au, none⟩ : Addr), ae, ?_⟩
 try dsimp only
 try rw [az]
 refine ⟨_, (e.a 0), _, _, _, (e.a 1), _, _, _, (e.a 2), ?_⟩
 obtain ⟨b2, H⟩ := H
 obtain ⟨b3, b4, H⟩ := qaa H
 refine (cllA (qbM.con b2 b4 k.row k.le f.row f.le)).mono ?_
 rintro _ bR ⟨rfl, I⟩
 have d := aW.ext I
 have c := c.ext I
 have i := ((i.ext a0).chg a1 aV).ext I
 have n := n.ext I
 have e := e.ext I
 have k := k.ext I
 have f := f.ext I
 have p := p.ext I
 have m := ((m.then a0).chgb a1 (Or.inl T)).then I
 refine ⟨b3, rfl, _, _, _, (c.a 1), ?_⟩
 obtain ⟨⟨b5, aC⟩, H⟩ := H
 refine ⟨b5, (by first | exact aC | omega | (simp at aC ⊢; omega)), (⟨ac, au, none⟩ : Addr), ae, ?_⟩
 try dsimp only
 try rw [az]
 refine ⟨_, _, _, (e.a 2), ?_⟩
 obtain ⟨b6, ⟨b7, b8⟩, aD⟩ := H
 refine ⟨fun m_ z_ t => ∃ (a2 : Int) (a3 V : List Int), z_ = (a2, ()) ∧ b6 m_ (a2, a3, V, ()) ∧ Chg (fun x => InW q G x ∨ InB s x) w t ∧ Own el3 t 0 s L a3 ∧ l.Memory.length = a3.length ∧ Own el3 t 0 ad ax V ∧ (rd l.Warps u).Regs.length = V.length ∧ MovW w (InW q G) (InB ad) ∧ Blk t aO 33 (bC S U q K s L l) ∧ Blk t aP 33 zC ∧ Blk t aS 84 (iC N) ∧ Plc t ac aY 52 ay #[(iv ((rd l.Warps u).Number)), (sv av ((rd l.Warps u).Frames.length) aw), (sv ad ((rd l.Warps u).Regs.length) ax)] ∧ Own el91 t 0 av aw ((rd l.Warps u).Frames) ∧ qf1 52 el91 el3 t 0 aZ q K l.Warps ((u.toNat)) ay, ⟨b7, 0, l.Memory, (rd l.Warps u).Regs, rfl, b8, m, d, (by first | rfl | assumption | omega | (simp; done) | (simp; omega) | (simp; assumption)), f, (by first | rfl | assumption | omega | (simp; done) | (simp; omega) | (simp; assumption)), O, c, i, n, (by first | exact e | (simp only [bC, wC, List.length_set]; exact e)), k, p⟩, ?_⟩
 rintro b9 _ bS ⟨a2, a3, V, rfl, aE, m, d, W, f, X, O, c, i, n, e, k, p⟩
 have H := aD b9 _ aE
 clear aD aE
 try dsimp only at H ⊢
 apply brc H<;>intro h H
 ·obtain ⟨ba, bb, H⟩ := qaa H
  refine (qbO.con bb ).mono ?_
  rintro _ bc ⟨rfl, J⟩
  have d := d.ext J
  have c := c.ext J
  have i := i.ext J
  have n := n.ext J
  have e := e.ext J
  have k := k.ext J
  have f := f.ext J
  have p := p.ext J
  have m := m.then J
  refine ⟨ba, rfl, ?_⟩
  apply brc H<;>intro h H
  ·obtain ⟨bd, be, bf⟩ := H
   exact ⟨bd, be, _, _, _, rfl, bf, m, d, (by first | rfl | assumption | omega | (simp; done) | (simp; omega) | (simp; assumption)), f, (by first | rfl | assumption | omega | (simp; done) | (simp; omega) | (simp; assumption)), O, (by first | exact c | (simp only [bC, wC, List.length_set, ← W]; exact c)), i, n, (by first | exact e | (simp only [bC, wC, List.length_set, ← X]; exact e)), k, p⟩
  refine ⟨_, (n.a 1), ?_⟩
  obtain ⟨⟨aF, ag⟩, H⟩ := H
  obtain ⟨bg, bh, bi⟩ := Row.at f.row aF ag
  refine ⟨aF, (by first | exact ag | omega | (simp at ag ⊢; omega)), bg, bh, _, (bi 0 _ rfl), _, (n.a 2), ?_⟩
  obtain ⟨⟨aG, ah⟩, H⟩ := H
  obtain ⟨bj, bk, bl⟩ := Row.at f.row aG ah
  refine ⟨aG, (by first | exact ah | omega | (simp at ah ⊢; omega)), bj, bk, _, (bl 0 _ rfl), _, (n.a 0), ?_⟩
  apply brc H<;>intro h H
  ·refine ⟨(fun _ => False), _, noM (n.a 1), _, _, _, noM (c.a 2), by decide, ?_⟩
   obtain ⟨⟨aH, ai⟩, H⟩ := H
   obtain ⟨bm, bn, bo⟩ := Row.at d.row aH ai
   refine ⟨aH, (by first | exact ai | omega | (simp at ai ⊢; omega)), bm, bn, _, ⟨(fun j => j), (bo 0 _ rfl)⟩, ?_⟩
   obtain ⟨⟨aj, a6⟩, H⟩ := H
   obtain ⟨bp, y, bT⟩ := Row.at f.row aj a6
   refine ⟨aj, (by first | exact a6 | omega | (simp at a6 ⊢; omega)), bp, y, ?_⟩
   have c := c.ext (Ext.drew _)
   have i := i.ext (Ext.drew _)
   have n := n.ext (Ext.drew _)
   have e := e.ext (Ext.drew _)
   have k := k.ext (Ext.drew _)
   have f := f.ext (Ext.drew _)
   refine Own.stA f y aj a6 0 (rd a3 (Int.tmod (rd V (wrap .i64 ((wrap .i64 (a2 * 4)) + N.B))) 32)) (fun bU P9 P bV => ?_)
   have d := (d.ext (Ext.drew _)).chg P (((af).symm).left y)
   have c := c.chg P (fun j => ((f.qa3 c (by decide))) _ y j.symm)
   have i := i.chg P (fun j => ((f.qa3 i (by decide))) _ y j.symm)
   have n := n.chg P (fun j => ((f.qa3 n (by decide))) _ y j.symm)
   have e := e.chg P (fun j => ((f.qa3 e.b (by decide))) _ y j.symm)
   have k := k.chg P (((Own.qai k f (by decide))).left y)
   have p := (p.ext (Ext.drew _)).chg P (fun j => aA _ j ⟨_, y, rfl⟩)
   have m := (m.then (Ext.drew _)).chgb P ((O _ ⟨_, y, rfl⟩).elim (fun bq => Or.inr (Or.inl bq)) Or.inl)
   have f := P9
   obtain ⟨br, bs, bt⟩ := H
   exact ⟨br, bs, _, _, _, rfl, bt, m, d, (by first | rfl | assumption | omega | (simp; done) | (simp; omega) | (simp; assumption)), f, (by first | rfl | assumption | omega | (simp; done) | (simp; omega) | (simp; assumption)), O, (by first | exact c | (simp only [bC, wC, List.length_set, ← W]; exact c)), i, n, (by first | exact e | (simp only [bC, wC, List.length_set, ← X]; exact e)), k, p⟩
  apply brc H<;>intro h H
  ·refine ⟨_, _, _, (c.a 2), by decide, ?_⟩
   obtain ⟨⟨ak, a7⟩, H⟩ := H
   obtain ⟨bu, z, bW⟩ := Row.at d.row ak a7
   refine ⟨ak, (by first | exact a7 | omega | (simp at a7 ⊢; omega)), bu, z, ?_⟩
   refine Own.stA d z ak a7 0 (rd V (wrap .i64 ((wrap .i64 (a2 * 4)) + N.B))) (fun bX P3 Q bY => ?_)
   have c := c.chg Q (fun j => (ap) _ z j.symm)
   have i := i.chg Q (fun j => (aa) _ z j.symm)
   have n := n.chg Q (fun j => (ab) _ z j.symm)
   have e := e.chg Q (fun j => ((d.qa3 e.b (by decide))) _ z j.symm)
   have k := k.chg Q (((Own.qai k d (by decide))).left z)
   have f := f.chg Q ((af).left z)
   have p := p.chg Q (fun j => aB _ j ⟨_, z, rfl⟩)
   have m := m.chgb Q (Or.inr (Or.inr ⟨_, z, rfl⟩))
   have d := P3
   obtain ⟨bv, bw, bx⟩ := H
   exact ⟨bv, bw, _, _, _, rfl, bx, m, d, (by first | rfl | assumption | omega | (simp; done) | (simp; omega) | (simp; assumption)), f, (by first | rfl | assumption | omega | (simp; done) | (simp; omega) | (simp; assumption)), O, (by first | exact c | (simp only [bC, wC, List.length_set, ← W]; exact c)), i, n, (by first | exact e | (simp only [bC, wC, List.length_set, ← X]; exact e)), k, p⟩
  apply brc H<;>intro h H
  ·refine ⟨(fun _ => False), ?_⟩
   have hBz := m
   have Z3 := d
   refine ⟨_, _, _, noM (c.a 2), by decide, _, _, _, noM (c.a 2), by decide, ?_⟩
   obtain ⟨⟨aI, al⟩, H⟩ := H
   obtain ⟨bz, bA, bB⟩ := Row.at d.row aI al
   refine ⟨aI, (by first | exact al | omega | (simp at al ⊢; omega)), bz, bA, _, ⟨(fun j => j), (bB 0 _ rfl)⟩, ?_⟩
   have d := d.ext (Ext.drew _)
   have c := c.ext (Ext.drew _)
   have i := i.ext (Ext.drew _)
   have n := n.ext (Ext.drew _)
   have e := e.ext (Ext.drew _)
   have k := k.ext (Ext.drew _)
   have f := f.ext (Ext.drew _)
   have p := p.ext (Ext.drew _)
   have m := m.then (Ext.drew _)
   have am := (Chg.refl (fun _ => False) bc).then (Ext.drew _)
   obtain ⟨aJ, bD, H⟩ := qaa H
   refine (qbA.con bD ).mono ?_
   rintro _ bZ ⟨rfl, E⟩
   have d := d.ext E
   have e := e.ext E
   have k := k.ext E
   have am := am.then E
   refine ⟨aJ, rfl, qaw am, ?_⟩
   obtain ⟨⟨an, a8⟩, H⟩ := H
   obtain ⟨bE, F, c0⟩ := Row.at Z3.row an a8
   refine ⟨an, (by first | exact a8 | omega | (simp at a8 ⊢; omega)), bE, F, ?_⟩
   refine Own.stA d F an a8 0 aJ (fun c1 P3 R c2 => ?_)
   have c := (c.ext E).chg R (fun j => (ap) _ F j.symm)
   have i := (i.ext E).chg R (fun j => (aa) _ F j.symm)
   have n := (n.ext E).chg R (fun j => (ab) _ F j.symm)
   have e := e.chg R (fun j => ((d.qa3 e.b (by decide))) _ F j.symm)
   have k := k.chg R (((Own.qai k d (by decide))).left F)
   have f := (f.ext E).chg R ((af).left F)
   have p := (p.ext E).chg R (fun j => aB _ j ⟨_, F, rfl⟩)
   have m := (m.then E).chgb R (Or.inr (Or.inr ⟨_, F, rfl⟩))
   have d := P3
   obtain ⟨bF, bG, bH⟩ := H
   exact ⟨bF, bG, _, _, _, rfl, bH, m, d, (by first | rfl | assumption | omega | (simp; done) | (simp; omega) | (simp; assumption)), f, (by first | rfl | assumption | omega | (simp; done) | (simp; omega) | (simp; assumption)), O, (by first | exact c | (simp only [bC, wC, List.length_set, ← W]; exact c)), i, n, (by first | exact e | (simp only [bC, wC, List.length_set, ← X]; exact e)), k, p⟩
  obtain ⟨bI, bJ, bK⟩ := H
  exact ⟨bI, bJ, _, _, _, rfl, bK, m, d, (by first | rfl | assumption | omega | (simp; done) | (simp; omega) | (simp; assumption)), f, (by first | rfl | assumption | omega | (simp; done) | (simp; omega) | (simp; assumption)), O, (by first | exact c | (simp only [bC, wC, List.length_set, ← W]; exact c)), i, n, (by first | exact e | (simp only [bC, wC, List.length_set, ← X]; exact e)), k, p⟩
 refine ⟨_, _, _, (c.a 0), _, _, _, (c.a 1), _, _, _, (c.a 2), _, (c.a 3), _, (c.a 4), ?_⟩
 refine stB i 0 (bC S U q K s L l) (fun c3 P5 Y => ?_)
 have d := d.chg Y aa
 have e := e.chg Y (Blk.qhY e.b i (by decide))
 have k := k.chg Y (k.qa3 i (by decide))
 have f := f.chg Y (f.qa3 i (by decide))
 have p := p.chg Y (p.qd0 i (by decide) (by decide) (by decide))
 have m := m.chgb Y (Or.inl L5)
 have i := P5
 have v := (qf1.back p ae b0 e k f (by first | rfl | (simp only [bC, wC, List.length_set]; done) | (simp; done) | (simp; omega)) (by first | rfl | (simp only [bC, wC, List.length_set, ← X]; done) | (simp; done) | (simp; omega)) (fun _ _ => Nat.zero_le _) (fun _ _ => Nat.zero_le _) (by decide) (by decide) (by decide) b1 aA).qmd a5
 refine ⟨_, _, _, (i.a 0), _, _, _, (i.a 1), _, _, _, (i.a 2), _, (i.a 3), _, (i.a 4), ?_⟩
 cases hr.trans H.symm
 exact ⟨rfl, v, (by first | (simp only [bC, wC, List.length_set]; done) | (simp only [bC, wC, List.length_set, List.length_set]; done) | (simp; done) | (simp; omega) | omega), d, (by first | (simp only [bC, wC, List.length_set]; done) | (simp only [bC, wC, List.length_set, ← W]; done) | (simp; done) | (simp; omega) | omega), m⟩
def qbt.vc (e : OA) (f g : Nat) (h : OA) (i j : Nat) (k : OA) (l m : Nat) (n o : Int) (w : World) (K : VK) : Prop :=
  newK w (.cells (vB e f g h i j k l m n o) 33) fun c p => qdh (σ := Int × Unit) (fun b a d => ldS a (((bx c).add 1).add 0) fun y q z => qa1 (decide (b.1 < ((q : Nat) : Int))) (ldS a (((bx c).add 1).add 0) fun r s A => (idx b.1 s r fun t => ldS a (((t.add ((b.1.toNat) * 3)).add 1).add 0) fun B u C => qa1 (decide (((u : Nat) : Int) > 0)) (ldI a (((bx c).add 3).add 0) fun v => ((0 : Int) ≤ b.1 ∧ qa1 ((qdQ .i64 (Int.fdiv v (2 ^ (min (b.1.toNat) (IntKind.bits .i64)))) 1) == 0) (K (.bool false) a) (d ((wrap .i64 (b.1 + 1)), ()) a))) (d ((wrap .i64 (b.1 + 1)), ()) a))) (ldI a (((bx c).add 3).add 0) fun x => K (.bool (x != 0)) a)) (0, ()) p

def qbt.ann : Ann := (.seq .l (.seq (.seq .l (.one (.loop [(3, .int .i64)] (.seq (.seq .l (.two .l .l)) (.seq (.one (.seq .l (.two (.seq .l .l) .l))) .l))))) (.seq .l .l)))

theorem qbt.con {b : D.Block} {e f g : OA} {i j k : Nat} {r : Bool} {w : World} (t : M.qgZ b) (n : r = M.qbt b) (S : Row el84 w e b.Code) (T : b.Code.length ≤ i) (u : RowW 52 el91 el3 w f b.Warps) (U : b.Warps.length ≤ j) (V : Row el3 w g b.Memory) (W : b.Memory.length ≤ k) :
    Cl 203 #[(.agg (bC e i f j g k b))] w (fun v l => v = (.bool r) ∧ Ext w l) := by
 have H := wp.qbt.math b t
 refine begK mixed Tryz.f203 ann (vc e b.Code.length i f b.Warps.length j g b.Memory.length k b.Waiting b.Phase) ?_
 unfold vc
 unfold wp.qbt at H
 refine qaL (fun x X Y c y => ?_)
 have d := qa6 (Ext.refl w) y
 obtain ⟨z, ⟨A, B⟩, o⟩ := H
 refine ⟨fun C E l => ∃ (m : Int), E = (m, ()) ∧ z C (m, ()) ∧ Ext w l ∧ Blk l x 33 (bC e i f j g k b), ⟨A, 0, rfl, B, d, c⟩, ?_⟩
 rintro F _ Z ⟨m, rfl, p, d, c⟩
 have H := o F _ p
 clear o p
 try dsimp only at H ⊢
 refine ⟨_, _, _, (c.a 1), ?_⟩
 apply brc H<;>intro h H
 ·refine ⟨_, _, _, (c.a 1), ?_⟩
  obtain ⟨⟨q, s⟩, H⟩ := H
  obtain ⟨G, I, a0, a1, a2, a3, a4, J, a5, a6, a7, a8, a9⟩ := RowW.at u q s
  refine ⟨q, s, G, I, _, _, _, (Ext.cell d J), ?_⟩
  apply brc H<;>intro h H
  ·refine ⟨_, (c.a 3), ?_⟩
   obtain ⟨K, H⟩ := H
   refine ⟨K, ?_⟩
   apply brc H<;>intro h H
   ·cases n.trans H.symm
    exact ⟨rfl, d⟩
   obtain ⟨L, N, O⟩ := H
   exact ⟨L, N, _, rfl, O, d, c⟩
  obtain ⟨P, Q, R⟩ := H
  exact ⟨P, Q, _, rfl, R, d, c⟩
 refine ⟨_, (c.a 3), ?_⟩
 cases n.trans H.symm
 exact ⟨rfl, d⟩
def qdA.vc (al : OA) (am an : Nat) (ao : OA) (ap aq : Nat) (ar : OA) (au av : Nat) (aw ax a : Int) (w : World) (K : VK) : Prop :=
  newK w (.cells (vB al am an ao ap aq ar au av aw ax) 33) fun i ay => newK ay (.cells zC 33) fun l r => ldB r (bx i) fun az aA aB aC aD aE aF aG aH aI aJ => Cl 199 #[(.agg (vB az aA aB aC aD aE aF aG aH aI aJ))] r fun aK aL => (∃ (s : OA) (t u : Nat), True ∧ ∃ (v : OA) (x y : Nat), True ∧ ∃ (z : OA) (A B : Nat), True ∧ ∃ (C : Int), True ∧ ∃ (D : Int), True ∧ aK = (.agg (vB s t u v x y z A B C D)) ∧ newK aL (.cells zC 33) fun b aM => qa5 (bx b) [(sv s t u), (sv v x y), (sv z A B), (iv C), (iv D)] 0 aM fun E => ldB E (bx i) fun aN aO aP aQ aR aS aT aU aV aW aX => Cl 98 #[(.agg (vB aN aO aP aQ aR aS aT aU aV aW aX)), (iv a)] E fun aY w64 => (∃ (F : Int), True ∧ ∃ (G : Int), True ∧ ∃ (H : Int), True ∧ ∃ (I : Int), True ∧ aY = (.agg #[(iv F), (iv G), (iv H), (iv I)]) ∧ newK w64 (.cells #[(iv 0), (iv 0), (iv 0), (iv 0)] 84) fun h aZ => qa5 (bx h) [(iv F), (iv G), (iv H), (iv I)] 0 aZ fun j => qfo (σ := Unit) (fun J => ldI j ((bx h).add 0) fun b0 => ldI j ((bx h).add 1) fun b1 => ldI j ((bx h).add 2) fun b2 => ldI j ((bx h).add 3) fun b3 => Cl 124 #[(.agg #[(iv b0), (iv b1), (iv b2), (iv b3)])] j fun b4 c => (∃ (L : Bool), b4 = (.bool L) ∧ qa1 L ((∃ f : Nat → Prop, ldSM f c ((bx b).add 1) 0 fun b5 b6 d5 => ldSM f c ((bx i).add 0) 0 fun b7 b8 b9 => ldSM f c ((bx i).add 1) 0 fun ba bb d6 => (idx a bb ba fun o => ldIM f c (o.add ((a.toNat) * 3)) 0 fun bc => ldSM f c (o.add ((a.toNat) * 3)) 1 fun bd be bf => ldSM f c (o.add ((a.toNat) * 3)) 2 fun bg bh bi => Cl 200 #[(sv b7 b8 b9), (.agg #[(iv bc), (sv bd be bf), (sv bg bh bi)])] c.drew fun bj M => (∃ (N : Int), True ∧ ∃ (O : OA) (P Q : Nat), True ∧ ∃ (R : OA) (S T : Nat), True ∧ bj = (.agg #[(iv N), (sv O P Q), (sv R S T)]) ∧ qab f c M ∧ (idx a b6 b5 fun bk => qa5 (bk.add ((a.toNat) * 3)) [(iv N), (sv O P Q), (sv R S T)] 0 M fun bl => J () bl))))) (ldB c (bx b) fun bm bn bo bp bq br bs bt bu bv bw => Cl 201 #[(.agg (vB bm bn bo bp bq br bs bt bu bv bw)), (iv a)] c fun bz bA => (∃ (U : OA) (V W : Nat), True ∧ ∃ (X : OA) (Y Z : Nat), True ∧ ∃ (a0 : OA) (a1 a2 : Nat), True ∧ ∃ (a3 : Int), True ∧ ∃ (a4 : Int), True ∧ bz = (.agg (vB U V W X Y Z a0 a1 a2 a3 a4)) ∧ qa5 (bx b) [(sv U V W), (sv X Y Z), (sv a0 a1 a2), (iv a3), (iv a4)] 0 bA fun m => qfo (σ := Unit) (fun a5 => ldI m (((bx h).add 0).add 0) fun bB => qa1 (bB == 16) (((0 : Int) ≤ a ∧ ((∃ (a6 : Int), m.drew.cell? (((bx b).add 3).add 0) = some (iv a6) ∧ ((qa5 ((bx b).add 3) [(iv (qh0 .i64 a6 (wrap .i64 (1 * 2 ^ (min (a.toNat) (IntKind.bits .i64))))))] 0 m.drew fun bC => a5 () bC) ∧ True)) ∧ True))) (a5 () m)) fun d7 d => ldS d (((bx b).add 1).add 0) fun bD bE d8 => (idx a bE bD fun bF => ldS d (((bF.add ((a.toNat) * 3)).add 1).add 0) fun d9 n da => (∃ k : Nat → Prop, ldSM k d ((bx b).add 1) 0 fun bG bH db => (idx a bH bG fun bI => ldSM k d ((bI.add ((a.toNat) * 3)).add 1) 0 fun bJ bK dc => ldSM k d ((bx b).add 1) 0 fun bL bM dd => (idx a bM bL fun bN => ldSM k d ((bN.add ((a.toNat) * 3)).add 1) 0 fun bO bP de => (idx (wrap .i64 (((n : Nat) : Int) - 1)) bP bO fun bQ => ldIM k d ((bQ.add (((wrap .i64 (((n : Nat) : Int) - 1)).toNat) * 3)).add 0) 0 fun bR => (idx (wrap .i64 (((n : Nat) : Int) - 1)) bK bJ fun bS => qa5 ((bS.add (((wrap .i64 (((n : Nat) : Int) - 1)).toNat) * 3)).add 0) [(iv (wrap .i64 (bR + 1)))] 0 d.drew fun e => (∃ g : Nat → Prop, ldSM g e ((bx b).add 1) 0 fun bT bU df => ldSM g e ((bx i).add 0) 0 fun bV bW bX => ldSM g e ((bx b).add 1) 0 fun bY bZ dg => (idx a bZ bY fun p => ldIM g e (p.add ((a.toNat) * 3)) 0 fun c0 => ldSM g e (p.add ((a.toNat) * 3)) 1 fun c1 c2 c3 => ldSM g e (p.add ((a.toNat) * 3)) 2 fun c4 c5 c6 => Cl 202 #[(sv bV bW bX), (.agg #[(iv c0), (sv c1 c2 c3), (sv c4 c5 c6)])] e.drew fun c7 a7 => (∃ (a8 : Int), True ∧ ∃ (a9 : OA) (aa ab : Nat), True ∧ ∃ (ac : OA) (ad ae : Nat), True ∧ c7 = (.agg #[(iv a8), (sv a9 aa ab), (sv ac ad ae)]) ∧ qab g e a7 ∧ (idx a bU bT fun c8 => qa5 (c8.add ((a.toNat) * 3)) [(iv a8), (sv a9 aa ab), (sv ac ad ae)] 0 a7 fun c9 => J () c9)))))))))))))) fun dh af => ldB af (bx b) fun ca cb cc cd ce cf cg ch ci cj ck => Cl 203 #[(.agg (vB ca cb cc cd ce cf cg ch ci cj ck))] af fun cl q => (∃ (ag : Bool), cl = (.bool ag) ∧ qa1 ag (qa5 ((bx b).add 3) [(iv 0)] 0 q fun ah => ldI ah (((bx b).add 4).add 0) fun cm => qa5 ((bx b).add 4) [(iv (wrap .i64 (cm + 1)))] 0 ah fun ai => ldB ai (bx b) fun cn co cp cq cr cs ct cu cv cw cx => qa5 (bx l) [(sv cn co cp), (sv cq cr cs), (sv ct cu cv), (iv cw), (iv cx)] 0 ai fun aj => ldB aj (bx l) fun cy cz cA cB cC cD cE cF cG cH cI => K (.agg (vB cy cz cA cB cC cD cE cF cG cH cI)) aj) (ldB q (bx b) fun cJ cK cL cM cN cO cP cQ cR cS cT => qa5 (bx l) [(sv cJ cK cL), (sv cM cN cO), (sv cP cQ cR), (iv cS), (iv cT)] 0 q fun ak => ldB ak (bx l) fun cU cV cW cX cY cZ d0 d1 d2 d3 d4 => K (.agg (vB cU cV cW cX cY cZ d0 d1 d2 d3 d4)) ak))))

def qdA.ann : Ann := (.seq .l (.seq .l (.seq .l (.cut [] (.seq .l (.two .l (.seq .l (.cut [] (.seq .l (.two .each .l)) (.seq .l (.seq .l .l)))))) (.seq (.seq .l (.two (.seq .l .l) .l)) (.seq .l .l))))))

theorem qdA.con {t r : D.Block} {av aw ax : OA} {ay az aA : Nat} {K : Int} {w : World} (hp : M.qgr t K) (hr : r = M.qdA t K) (aB : Row el84 w av t.Code) (aC : t.Code.length ≤ ay) (aX : RowW 52 el91 el3 w aw t.Warps) (bf : t.Warps.length ≤ az) (bg : Row el3 w ax t.Memory) (bh : t.Memory.length ≤ aA) :
    Cl 164 #[(.agg (bC av ay aw az ax aA t)), (iv K)] w (fun v_ s => ∃ (bi : OA) (bj : Nat) (aY : OA) (bk : Nat) (bl : Nat → Prop) (aZ : OA) (bm : Nat), v_ = (.agg (bC bi bj aY bk aZ bm r)) ∧ Own el84 s w.heap.size bi bj r.Code ∧ OwnW 52 el91 el3 s w.heap.size bl aY bk r.Warps ∧ Own el3 s w.heap.size aZ bm r.Memory ∧ Dis (InW aY bl) (InB aZ) ∧ Ext w s) := by
 have H := wp.qdA.math t K hp
 refine begK mixed Tryz.f164 ann (vc av t.Code.length ay aw t.Warps.length az ax t.Memory.length aA t.Waiting t.Phase K) ?_
 unfold vc
 unfold wp.qdA at H
 refine qaL (fun bK d8 L4 m bL => ?_)
 have d := qa6 (Ext.refl w) bL
 refine qaL (fun bn d9 L5 P5 bo => ?_)
 have m := m.ext bo
 have f := P5
 have L5 := Nat.le_trans d.size L5
 have d := qa6 d bo
 refine ⟨_, _, _, (m.a 0), _, _, _, (m.a 1), _, _, _, (m.a 2), _, (m.a 3), _, (m.a 4), ?_⟩
 obtain ⟨bM, H⟩ := H
 obtain ⟨n, bN, H⟩ := qaa H
 refine (qdq.con bM bN (aB.ext d) aC (aX.ext d) bf (bg.ext d) bh).mono ?_
 rintro _ da ⟨x, y, u, z, bO, v, E, rfl, P6, P7, P8, Q, b0⟩
 have bp := P6.qap f.lt
 have bP := P7.qg6 m (Nat.le_refl _)
 have bQ := P7.qg6 f (Nat.le_refl _)
 have bR := P8.qap m.lt
 have b1 := P8.qap f.lt
 have m := m.ext b0
 have f := f.ext b0
 have i := P6.mono d.size
 have l := P7.mono d.size
 have e := P8.mono d.size
 have d := qa6 d b0
 refine ⟨x, n.Code.length, y, trivial, u, n.Warps.length, z, trivial, v, n.Memory.length, E, trivial, n.Waiting, trivial, n.Phase, trivial, rfl, ?_⟩
 refine qaL (fun bq db L S ad => ?_)
 have b2 := m.ne L
 have aj := f.ne L
 have ak := i.qaD L
 have aD := l.qdp L
 have ae := e.qaD L
 have m := m.ext ad
 have f := f.ext ad
 have i := i.ext ad
 have l := l.ext ad
 have e := e.ext ad
 have c := S
 have L := Nat.le_trans d.size L
 have d := qa6 d ad
 refine stB c 0 (bC x y u z v E n) (fun dc S af => ?_)
 have al := m.chg af b2
 have a3 := f.chg af aj
 have N := i.chg af ak
 have a4 := l.chg af aD
 have O := e.chg af ae
 have m := al
 have d := echg d af L
 refine ⟨_, _, _, (m.a 0), _, _, _, (m.a 1), _, _, _, (m.a 2), _, (m.a 3), _, (m.a 4), ?_⟩
 obtain ⟨bS, H⟩ := H
 obtain ⟨am, bT, H⟩ := qaa H
 refine (qcs.con bS bT (aB.ext d) aC (aX.ext d) bf (bg.ext d) bh).mono ?_
 rintro _ dd ⟨rfl, a5⟩
 have m := m.ext a5
 have f := a3.ext a5
 have i := N.ext a5
 have l := a4.ext a5
 have e := O.ext a5
 have c := S.ext a5
 have d := qa6 d a5
 refine ⟨am.Op, trivial, am.A, trivial, am.B, trivial, am.C, trivial, rfl, ?_⟩
 refine qaL (fun de df T bU a6 => ?_)
 have bV := m.ne T
 have bW := f.ne T
 have bX := i.qaD T
 have br := l.qdp T
 have bs := e.qaD T
 have bt := c.ne T
 have i := i.ext a6
 have l := l.ext a6
 have e := e.ext a6
 have c := c.ext a6
 have P := bU
 have T := Nat.le_trans d.size T
 have d := qa6 d a6
 refine qda P (o := 0) (cs' := (iC am)) rfl rfl (Nat.le_of_ble_eq_true rfl) rfl (fun dg P a7 => ?_)
 have m := (m.ext a6).chg a7 bV
 have f := (f.ext a6).chg a7 bW
 have N := i.chg a7 bX
 have a4 := l.chg a7 br
 have O := e.chg a7 bs
 have b3 := c.chg a7 bt
 have i := N
 have l := a4
 have e := O
 have c := b3
 have d := echg d a7 T
 obtain ⟨bY, bZ, H⟩ := qd9 H
 refine ⟨fun z_ s => ∃ (aE a8 : Int) (aF : List D.Warp) (aG : List Int) (an : Nat → Prop), z_ = (()) ∧ bY (aE, a8, aF, aG, ()) ∧ Ext w s ∧ Blk s bq 33 #[(sv x n.Code.length y), (sv u n.Warps.length z), (sv v n.Memory.length E), (iv aE), (iv a8)] ∧ OwnW 52 el91 el3 s w.heap.size an u z aF ∧ n.Warps.length = aF.length ∧ Dis (InW u an) (InB v) ∧ Own el3 s w.heap.size v E aG ∧ n.Memory.length = aG.length ∧ Blk s bn 33 zC ∧ Own el84 s w.heap.size x y n.Code, ?_, ?_⟩
 ·refine ⟨_, (P.a 0), _, (P.a 1), _, (P.a 2), _, (P.a 3), ?_⟩
  obtain ⟨c0, c1, H⟩ := qaa H
  refine (qcG.con c1 ).mono ?_
  rintro _ c2 ⟨rfl, Y⟩
  have m := m.ext Y
  have f := f.ext Y
  have i := i.ext Y
  have l := l.ext Y
  have e := e.ext Y
  have c := c.ext Y
  have P := P.ext Y
  have d := qa6 d Y
  refine ⟨c0, rfl, ?_⟩
  apply brc H<;>intro h H
  ·obtain ⟨⟨c3, c4⟩, H⟩ := H
   obtain ⟨c5, dh, c6, di, dj, dk, dl, dm, c7, b4, c8, c9, G, dn, dp, a9, ca, dq, dr, cb, cc⟩ := OwnW.focus l c3 c4 (by decide) (by decide) (by decide)
   have cd := qe3 Q (qge ca)
   refine ⟨(fun _ => False), _, _, _, noM (c.a 1), _, _, _, noM (m.a 0), _, _, _, noM (m.a 1), ?_⟩
   obtain ⟨⟨bu, bv⟩, H⟩ := H
   obtain ⟨ce, cf, ds, dt, du, dv, cg, ch, ci, cj, ck, cl, cm⟩ := RowW.at aX bu bv
   refine ⟨bu, bv, ce, cf, _, ⟨(fun q => q), (Ext.cell d cg)⟩, _, _, _, ⟨(fun q => q), (Ext.cell d ch)⟩, _, _, _, ⟨(fun q => q), (Ext.cell d ci)⟩, ?_⟩
   have f := f.ext (Ext.drew _)
   have i := i.ext (Ext.drew _)
   have e := e.ext (Ext.drew _)
   have c := c.ext (Ext.drew _)
   have G := G.ext (Ext.drew _)
   have a9 := a9.ext (Ext.drew _)
   have d := qa6 d (Ext.drew _)
   have b5 := (Chg.refl (fun _ => False) c2).then (Ext.drew _)
   obtain ⟨cn, H⟩ := H
   obtain ⟨aH, co, H⟩ := qaa H
   refine (cllA (qdr.con cn co (aB.ext d) aC (cj.ext d) ck (cl.ext d) cm)).mono ?_
   rintro _ dw ⟨b6, bw, b7, bx, rfl, aI, aJ, Z⟩
   have cp := aN e aI
   have cq := aI.qap G.lt
   have cr := a9.qf8 aI (Nat.le_refl _)
   have cs := aN e aJ
   have ct := aJ.qap G.lt
   have cu := a9.qf8 aJ (Nat.le_refl _)
   have f := f.ext Z
   have i := i.ext Z
   have e := e.ext Z
   have c := c.ext Z
   have G := G.ext Z
   have aK := aI.mono d.size
   have aL := aJ.mono d.size
   have d := qa6 d Z
   have b5 := b5.then Z
   refine ⟨aH.Number, trivial, b6, aH.Frames.length, bw, trivial, b7, aH.Regs.length, bx, trivial, rfl, qaw b5, ?_⟩
   obtain ⟨⟨cv, bz⟩, H⟩ := H
   refine ⟨cv, (by first | exact bz | omega | (simp at bz ⊢; omega)), (⟨c5, c6, none⟩ : Addr), b4, ?_⟩
   try dsimp only
   try rw [c8]
   refine qnu G (j := 0) (cs' := (wC b6 bw b7 bx aH)) rfl rfl (Nat.le_of_ble_eq_true rfl) rfl (fun dx cw a0 => ?_)
   have f := f.chg a0 (Blk.qhY f G.b (by decide))
   have i := i.chg a0 (i.qa3 G.b (by decide))
   have e := e.chg a0 (e.qa3 G.b (by decide))
   have c := c.chg a0 (Blk.qhY c G.b (by decide))
   have a9 := (a9.ext Z).chg a0 cb
   have aK := aK.chg a0 cq
   have aL := aL.chg a0 ct
   have d := echg d a0 cc
   have G := cw
   have l := (qf1.back a9 b4 c9 G aK aL rfl rfl aK.low aL.low (by decide) (by decide) (by decide) cr cu)
   have Q := qeO (qif b4 (e.qa3 G.b (by decide))) cd (cp).symm (cs).symm
   exact ⟨_, _, _, _, (fun k => c7 k ∨ InB b6 k ∨ InB b7 k), rfl, H, d, (by first | exact c | (simp only [bC, wC, List.length_set]; exact c)), l, (by first | rfl | assumption | omega | (simp; done) | (simp; omega) | (simp; assumption)), Q, e, (by first | rfl | assumption | omega | (simp; done) | (simp; omega) | (simp; assumption)), f, i⟩
  refine ⟨_, _, _, (c.a 0), _, _, _, (c.a 1), _, _, _, (c.a 2), _, (c.a 3), _, (c.a 4), ?_⟩
  obtain ⟨cx, H⟩ := H
  obtain ⟨I, cy, H⟩ := qaa H
  refine (qcc.con cx cy i.row i.le (l.mono (Nat.zero_le _)) (e.mono (Nat.zero_le _)) Q (fun _ => (fun g q => (fun J => J.elim (((l.qfe i (by decide) (by decide) (by decide))).symm g q) (((Own.qai i e (by decide))).inb g q))))).mono ?_
  rintro _ dy ⟨rfl, Q7, bA, Q8, b8, ag⟩
  have m := m.chgS ag (fun J => J.elim bP (bR).inb)
  have f := f.chgS ag (fun J => J.elim bQ (b1).inb)
  have i := i.chgS ag (fun g q => (fun J => J.elim (((l.qfe i (by decide) (by decide) (by decide))).symm g q) (((Own.qai i e (by decide))).inb g q)))
  have c := c.chgS ag (fun J => J.elim aD (ae).inb)
  have d := Chg.ext d ag (fun g => (fun J => J.elim (l.lowW g) (e.low g)))
  have e := Q8.up e
  refine ⟨x, n.Code.length, y, trivial, u, n.Warps.length, z, trivial, v, n.Memory.length, E, trivial, I.1.Waiting, trivial, I.1.Phase, trivial, rfl, ?_⟩
  refine stB c 0 #[(sv x n.Code.length y), (sv u n.Warps.length z), (sv v n.Memory.length E), (iv I.1.Waiting), (iv I.1.Phase)] (fun dz S aa => ?_)
  have al := m.chg aa b2
  have a3 := f.chg aa aj
  have N := i.chg aa ak
  have l := (Q7.up l).chg aa aD
  have O := e.chg aa ae
  have P := (P.chgS ag (fun J => J.elim br (bs).inb)).chg aa (bt).symm
  have m := al
  have f := a3
  have i := N
  have e := O
  have d := echg d aa L
  have c := S
  obtain ⟨cz, cA, H⟩ := qd9 H
  refine ⟨fun z_ s => ∃ (aM aO : Int), z_ = (()) ∧ cz (aM, aO, ()) ∧ Ext w s ∧ Blk s bq 33 #[(sv x n.Code.length y), (sv u n.Warps.length z), (sv v n.Memory.length E), (iv aM), (iv aO)] ∧ Blk s bK 33 (bC av ay aw az ax aA t) ∧ Blk s bn 33 zC ∧ Own el84 s w.heap.size x y n.Code ∧ OwnW 52 el91 el3 s w.heap.size bO u z I.2.1 ∧ Own el3 s w.heap.size v E I.2.2, ?_, ?_⟩
  ·refine ⟨_, (P.a 0), ?_⟩
   apply brc H<;>intro h H
   ·have c := c.ext (Ext.drew _)
    have d := qa6 d (Ext.drew _)
    obtain ⟨cB, H⟩ := H
    refine ⟨cB, ?_⟩
    refine qcn ?_
    refine ⟨_, (c.a 3), ?_⟩
    refine qcn ?_
    refine qda c (o := 3) (cs' := #[(sv x n.Code.length y), (sv u n.Warps.length z), (sv v n.Memory.length E), (iv (qh0 .i64 I.1.Waiting (wrap .i64 (1 * 2 ^ (min (K.toNat) (IntKind.bits .i64)))))), (iv I.1.Phase)]) rfl rfl (Nat.le_of_ble_eq_true rfl) rfl (fun dA c ah => ?_)
    have m := (m.ext (Ext.drew _)).chg ah b2
    have f := (f.ext (Ext.drew _)).chg ah aj
    have i := (i.ext (Ext.drew _)).chg ah ak
    have l := (l.ext (Ext.drew _)).chg ah aD
    have e := (e.ext (Ext.drew _)).chg ah ae
    have d := echg d ah L
    exact ⟨_, _, rfl, H, d, (by first | exact c | (simp only [bC, wC, List.length_set, bA, b8]; exact c)), m, f, i, l, e⟩
   exact ⟨_, _, rfl, H, d, (by first | exact c | (simp only [bC, wC, List.length_set, bA, b8]; exact c)), m, f, i, l, e⟩
  rintro _ dB ⟨aM, aO, rfl, H, d, c, m, f, i, l, e⟩
  have H := cA _ H
  try dsimp only at H ⊢
  refine ⟨_, _, _, (c.a 1), ?_⟩
  obtain ⟨⟨bB, b9⟩, H⟩ := H
  obtain ⟨ao, dC, ap, dD, dE, dF, dG, dH, cC, ab, aq, cD, p, F, ac, U, cE, cF, dI, cG, cH⟩ := OwnW.focus l bB b9 (by decide) (by decide) (by decide)
  have cI := qe3 Q (qge cE)
  refine ⟨bB, (by first | exact b9 | omega | (simp at b9 ⊢; omega)), (⟨ao, ap, none⟩ : Addr), ab, ?_⟩
  try dsimp only
  try rw [aq]
  refine ⟨_, _, _, (p.a 1), (fun _ => False), _, _, _, noM (c.a 1), ?_⟩
  obtain ⟨⟨cJ, bD⟩, H⟩ := H
  refine ⟨cJ, (by first | exact bD | omega | (simp at bD ⊢; omega)), (⟨ao, ap, none⟩ : Addr), ab, ?_⟩
  try dsimp only
  try rw [aq]
  refine ⟨_, _, _, noM (p.a 1), _, _, _, noM (c.a 1), ?_⟩
  obtain ⟨⟨cK, bE⟩, H⟩ := H
  refine ⟨cK, (by first | exact bE | omega | (simp at bE ⊢; omega)), (⟨ao, ap, none⟩ : Addr), ab, ?_⟩
  try dsimp only
  try rw [aq]
  refine ⟨_, _, _, noM (p.a 1), ?_⟩
  obtain ⟨⟨bF, ba⟩, H⟩ := H
  obtain ⟨cL, cM, cN⟩ := Row.at F.row bF ba
  refine ⟨bF, (by first | exact ba | omega | (simp at ba ⊢; omega)), cL, cM, _, ⟨(fun q => q), (cN 0 _ rfl)⟩, ?_⟩
  obtain ⟨⟨bb, aP⟩, H⟩ := H
  obtain ⟨cO, R, dJ⟩ := Row.at F.row bb aP
  refine ⟨bb, (by first | exact aP | omega | (simp at aP ⊢; omega)), cO, R, ?_⟩
  have m := m.ext (Ext.drew _)
  have f := f.ext (Ext.drew _)
  have i := i.ext (Ext.drew _)
  have e := e.ext (Ext.drew _)
  have c := c.ext (Ext.drew _)
  have p := p.ext (Ext.drew _)
  have F := F.ext (Ext.drew _)
  have ac := ac.ext (Ext.drew _)
  have U := U.ext (Ext.drew _)
  have d := qa6 d (Ext.drew _)
  refine Own.stA F R bb aP 0 (⟨(wrap .i64 ((rd ((rd I.2.1 K).Frames) (wrap .i64 (((rd I.2.1 K).Frames.length : Int) - 1))).Pc + 1)), (rd ((rd I.2.1 K).Frames) (wrap .i64 (((rd I.2.1 K).Frames.length : Int) - 1))).Stop, (rd ((rd I.2.1 K).Frames) (wrap .i64 (((rd I.2.1 K).Frames.length : Int) - 1))).Mask⟩ : D.Frame) (fun cP cQ V cR => ?_)
  have al := m.chg V (fun q => ((F.qa3 m (by decide))) _ R q.symm)
  have a3 := f.chg V (fun q => ((F.qa3 f (by decide))) _ R q.symm)
  have N := i.chg V (((Own.qai i F (by decide))).left R)
  have O := e.chg V (((Own.qai e F (by decide))).left R)
  have b3 := c.chg V (fun q => ((F.qa3 c (by decide))) _ R q.symm)
  have p := p.chg V (fun q => ((F.qa3 p.b (by decide))) _ R q.symm)
  have cS := ac.chg V (((Own.qai ac F (by decide))).left R)
  have cT := U.chg V (fun q => cF _ q ⟨_, R, rfl⟩)
  have m := al
  have c := b3
  refine ⟨(fun _ => False), _, _, _, noM (c.a 1), _, _, _, noM (m.a 0), _, _, _, noM (c.a 1), ?_⟩
  obtain ⟨⟨cU, bG⟩, H⟩ := H
  refine ⟨cU, (by first | exact bG | omega | (simp at bG ⊢; omega)), (⟨ao, ap, none⟩ : Addr), ab, ?_⟩
  try dsimp only
  try rw [aq]
  refine ⟨_, noM (p.a 0), _, _, _, noM (p.a 1), _, _, _, noM (p.a 2), ?_⟩
  have f := a3.ext (Ext.drew _)
  have i := N.ext (Ext.drew _)
  have e := O.ext (Ext.drew _)
  have c := c.ext (Ext.drew _)
  have p := p.ext (Ext.drew _)
  have F := cQ.ext (Ext.drew _)
  have ac := cS.ext (Ext.drew _)
  have U := cT.ext (Ext.drew _)
  have d := qa6 (echg d V cR) (Ext.drew _)
  have bc := (Chg.refl (fun _ => False) cP).then (Ext.drew _)
  obtain ⟨cV, H⟩ := H
  obtain ⟨aQ, cW, H⟩ := qaa H
  refine (cllA (qaM.con cV cW (aB.ext d) aC F.row F.le ac.row ac.le)).mono ?_
  rintro _ dK ⟨bd, bH, be, bI, rfl, aR, aS, a1⟩
  have cX := aN e aR
  have cY := aR.qap p.lt
  have cZ := U.qf8 aR (Nat.le_refl _)
  have d0 := aN e aS
  have d1 := aS.qap p.lt
  have d2 := U.qf8 aS (Nat.le_refl _)
  have f := f.ext a1
  have i := i.ext a1
  have e := e.ext a1
  have c := c.ext a1
  have p := p.ext a1
  have aT := aR.mono d.size
  have aU := aS.mono d.size
  have d := qa6 d a1
  have bc := bc.then a1
  refine ⟨aQ.Number, trivial, bd, aQ.Frames.length, bH, trivial, be, aQ.Regs.length, bI, trivial, rfl, qaw bc, ?_⟩
  obtain ⟨⟨d3, bJ⟩, H⟩ := H
  refine ⟨d3, (by first | exact bJ | omega | (simp at bJ ⊢; omega)), (⟨ao, ap, none⟩ : Addr), ab, ?_⟩
  try dsimp only
  try rw [aq]
  refine qnu p (j := 0) (cs' := (wC bd bH be bI aQ)) rfl rfl (Nat.le_of_ble_eq_true rfl) rfl (fun dL d4 a2 => ?_)
  have f := f.chg a2 (Blk.qhY f p.b (by decide))
  have i := i.chg a2 (i.qa3 p.b (by decide))
  have e := e.chg a2 (e.qa3 p.b (by decide))
  have c := c.chg a2 (Blk.qhY c p.b (by decide))
  have U := (U.ext a1).chg a2 cG
  have aT := aT.chg a2 cY
  have aU := aU.chg a2 d1
  have d := echg d a2 cH
  have p := d4
  have l := (qf1.back U ab cD p aT aU rfl rfl aT.low aU.low (by decide) (by decide) (by decide) cZ d2)
  have Q := qeO (qif ab (e.qa3 p.b (by decide))) cI (cX).symm (d0).symm
  exact ⟨aM, aO, _, _, (fun k => cC k ∨ InB bd k ∨ InB be k), rfl, H, d, (by first | exact c | (simp only [bC, wC, List.length_set, b8]; exact c)), l, (by first | rfl | assumption | omega | (simp; done) | (simp; omega) | (simp; assumption)), Q, e, (by first | rfl | assumption | omega | (simp; done) | (simp; omega) | (simp; assumption)), f, i⟩
 rintro _ dM ⟨aE, a8, aF, aG, an, rfl, H, d, c, l, W, Q, e, X, f, i⟩
 have H := bZ _ H
 try dsimp only at H ⊢
 refine ⟨_, _, _, (c.a 0), _, _, _, (c.a 1), _, _, _, (c.a 2), _, (c.a 3), _, (c.a 4), ?_⟩
 obtain ⟨d5, H⟩ := H
 obtain ⟨d6, d7, H⟩ := qaa H
 refine (qhl (by first | (simp only [bC, wC, List.length_set, ← W, ← X]; done) | (simp; done)) (qbt.con d5 d7 i.row i.le l.row l.le e.row e.le)).mono ?_
 rintro _ dN ⟨rfl, ai⟩
 have f := f.ext ai
 have i := i.ext ai
 have l := l.ext ai
 have e := e.ext ai
 have c := c.ext ai
 have d := qa6 d ai
 refine ⟨d6, rfl, ?_⟩
 apply brc H<;>intro h H
 ·refine stB c 3 #[(sv x n.Code.length y), (sv u n.Warps.length z), (sv v n.Memory.length E), (iv 0), (iv a8)] (fun dO S ar => ?_)
  have a3 := f.chg ar aj
  have N := i.chg ar ak
  have a4 := l.chg ar (l.qd0 c (by decide) (by decide) (by decide))
  have O := e.chg ar ae
  have i := N
  have l := a4
  have e := O
  have d := echg d ar L
  have c := S
  refine ⟨_, (c.a 4), ?_⟩
  refine stB c 4 #[(sv x n.Code.length y), (sv u n.Warps.length z), (sv v n.Memory.length E), (iv 0), (iv (wrap .i64 (a8 + 1)))] (fun dP S au => ?_)
  have f := a3.chg au aj
  have N := i.chg au ak
  have a4 := l.chg au (l.qd0 c (by decide) (by decide) (by decide))
  have O := e.chg au ae
  have l := a4
  have d := echg d au L
  have c := S
  refine ⟨_, _, _, (c.a 0), _, _, _, (c.a 1), _, _, _, (c.a 2), _, (c.a 3), _, (c.a 4), ?_⟩
  refine stB f 0 #[(sv x n.Code.length y), (sv u n.Warps.length z), (sv v n.Memory.length E), (iv 0), (iv (wrap .i64 (a8 + 1)))] (fun dQ P5 aV => ?_)
  have i := N.chg aV bp
  have l := l.chg aV (l.qd0 f (by decide) (by decide) (by decide))
  have e := O.chg aV b1
  have d := echg d aV L5
  have f := P5
  refine ⟨_, _, _, (f.a 0), _, _, _, (f.a 1), _, _, _, (f.a 2), _, (f.a 3), _, (f.a 4), ?_⟩
  cases hr.trans H.symm
  exact ⟨x, y, u, z, an, v, E, (by first | rfl | (rw [W, X]; done) | (simp; done) | (simp; omega) | (simp [*]; done)), (by first | exact i | (simp only [bC, wC, List.length_set]; exact i) | (rw [← W, ← X]; exact i)), (by first | exact l | (simp only [bC, wC, List.length_set]; exact l) | (rw [← W, ← X]; exact l)), (by first | exact e | (simp only [bC, wC, List.length_set]; exact e) | (rw [← W, ← X]; exact e)), Q, d⟩
 refine ⟨_, _, _, (c.a 0), _, _, _, (c.a 1), _, _, _, (c.a 2), _, (c.a 3), _, (c.a 4), ?_⟩
 refine stB f 0 #[(sv x n.Code.length y), (sv u n.Warps.length z), (sv v n.Memory.length E), (iv aE), (iv a8)] (fun dR P5 aW => ?_)
 have i := i.chg aW bp
 have l := l.chg aW (l.qd0 f (by decide) (by decide) (by decide))
 have e := e.chg aW b1
 have d := echg d aW L5
 have f := P5
 refine ⟨_, _, _, (f.a 0), _, _, _, (f.a 1), _, _, _, (f.a 2), _, (f.a 3), _, (f.a 4), ?_⟩
 cases hr.trans H.symm
 exact ⟨x, y, u, z, an, v, E, (by first | rfl | (rw [W, X]; done) | (simp; done) | (simp; omega) | (simp [*]; done)), (by first | exact i | (simp only [bC, wC, List.length_set]; exact i) | (rw [← W, ← X]; exact i)), (by first | exact l | (simp only [bC, wC, List.length_set]; exact l) | (rw [← W, ← X]; exact l)), (by first | exact e | (simp only [bC, wC, List.length_set]; exact e) | (rw [← W, ← X]; exact e)), Q, d⟩
def qbU.vc (h : Addr) (b F G H I : Int) (w : World) (K : VK) : Prop :=
  newK w (.cells #[(iv F), (iv G), (iv H), (iv I)] 84) fun c j => ldS j ((h.add 1).add 0) fun J L aD => (idx b L J fun o => ldI j ((o.add ((b.toNat) * 3)).add 0) fun M => ldS j ((o.add ((b.toNat) * 3)).add 1) fun N O P => ldS j ((o.add ((b.toNat) * 3)).add 2) fun Q R S => Cl 106 #[(.agg #[(iv M), (sv N O P), (sv Q R S)])] j fun T U => (∃ (s : Int), T = (iv s) ∧ Cl 105 #[(iv s)] U fun V W => (∃ (t : OA) (p X : Nat), V = (sv t p X) ∧ qdh (σ := Int × Unit) (fun d e m => qa1 (decide (d.1 < ((p : Nat) : Int))) ((idx d.1 p t fun Y => ldI e ((Y.add ((d.1.toNat) * 1)).add 0) fun Z => ldS e ((h.add 1).add 0) fun a0 a1 aE => (idx b a1 a0 fun q => ldI e ((q.add ((b.toNat) * 3)).add 0) fun a2 => ldS e ((q.add ((b.toNat) * 3)).add 1) fun a3 a4 a5 => ldS e ((q.add ((b.toNat) * 3)).add 2) fun a6 a7 a8 => Cl 107 #[(.agg #[(iv a2), (sv a3 a4 a5), (sv a6 a7 a8)]), (iv Z)] e fun a9 a => (∃ (f : OA) (g aa : Nat), a9 = (sv f g aa) ∧ ldI a (((bx c).add 0).add 0) fun r => qa1 (r == 13) ((∃ k : Nat → Prop, ldIM k a ((bx c).add 1) 0 fun u => ldSM k a (h.add 2) 0 fun ab ac aF => ldIM k a ((bx c).add 2) 0 fun v => (idx v g f fun ad => ldIM k a (ad.add ((v.toNat) * 1)) 0 fun x => ((32 : Int) ≠ 0 ∧ (idx (Int.tmod x 32) ac ab fun ae => ldIM k a (ae.add (((Int.tmod x 32).toNat) * 1)) 0 fun af => (idx u g f fun ag => qa5 (ag.add ((u.toNat) * 1)) [(iv af)] 0 a.drew fun ah => m ((wrap .i64 (d.1 + 1)), ()) ah)))))) (qa1 (r == 14) ((∃ l : Nat → Prop, ldSM l a (h.add 2) 0 fun ai aj aG => ldIM l a ((bx c).add 1) 0 fun y => (idx y g f fun ak => ldIM l a (ak.add ((y.toNat) * 1)) 0 fun z => ((32 : Int) ≠ 0 ∧ ldIM l a ((bx c).add 2) 0 fun A => (idx A g f fun al => ldIM l a (al.add ((A.toNat) * 1)) 0 fun am => (idx (Int.tmod z 32) aj ai fun an => qa5 (an.add (((Int.tmod z 32).toNat) * 1)) [(iv am)] 0 a.drew fun ao => m ((wrap .i64 (d.1 + 1)), ()) ao)))))) (qa1 (r == 15) (ldI a (((bx c).add 1).add 0) fun B => (idx B g f fun ap => ldI a ((ap.add ((B.toNat) * 1)).add 0) fun n => ((32 : Int) ≠ 0 ∧ (∃ i : Nat → Prop, ldSM i a (h.add 2) 0 fun aq ar aH => ldSM i a (h.add 2) 0 fun au av aI => (idx (Int.tmod n 32) av au fun aw => ldIM i a (aw.add (((Int.tmod n 32).toNat) * 1)) 0 fun ax => ldIM i a ((bx c).add 2) 0 fun C => (idx C g f fun ay => ldIM i a (ay.add ((C.toNat) * 1)) 0 fun az => Cl 173 #[(iv ax), (iv az)] a.drew fun aA D => (∃ (E : Int), aA = (iv E) ∧ qab i a D ∧ (idx (Int.tmod n 32) ar aq fun aB => qa5 (aB.add (((Int.tmod n 32).toNat) * 1)) [(iv E)] 0 D fun aC => m ((wrap .i64 (d.1 + 1)), ()) aC)))))))) (m ((wrap .i64 (d.1 + 1)), ()) a))))))) (K (.tuple #[]) e)) (0, ()) W)))

def qbU.ann : Ann := (.seq .l (.seq .l (.one (.loop [(20, .int .i64)] (.seq .l (.seq (.two .l .l) (.seq (.one (.seq .l (.seq .l (.seq .l (.one (.seq .l (.two .l (.seq .l (.two .l (.seq .l (.two (.seq .l .l) .l))))))))))) .l)))))))

theorem qbU.con {p r : D.Block} {R af aa a5 : Nat} {ab t E : OA} {J : Nat → Prop} {K : Int} {F : D.Ins} {w : World} (hp : M.qeS p K F) (hr : r = M.qbU p K F) (d : Blk w R 33 (bC ab af t aa E a5 p)) (cg : Row el84 w ab p.Code) (ch : p.Code.length ≤ af) (u : OwnW 52 el91 el3 w 0 J t aa p.Warps) (c : Own el3 w 0 E a5 p.Memory) (v : Dis (InW t J) (InB E)) (ci : p.Code ≠ [] → ∀ g, InB ab g → ¬ (fun x => InW t J x ∨ InB E x ∨ x = R) g) :
    Cl 131 #[(.pointer (some (bx R))), (iv K), (.agg (iC F))] w (fun v_ I => ∃ (an : OA) (aA : Nat) (aB : Nat → Prop), v_ = (.tuple #[]) ∧ Blk I R 33 #[(sv ab r.Code.length af), (sv an r.Warps.length aA), (sv E p.Memory.length a5), (iv r.Waiting), (iv r.Phase)] ∧ r.Code = p.Code ∧ OwnW 52 el91 el3 I 0 aB an aA r.Warps ∧ MovW w (InW t J) (InW an aB) ∧ Own el3 I 0 E a5 r.Memory ∧ r.Memory.length = p.Memory.length ∧ Chg (fun x => InW t J x ∨ InB E x ∨ x = R) w I) := by
 have H := wp.qbU.math p K F hp
 refine begK mixed Tryz.f131 ann (vc (bx R) K F.Op F.A F.B F.C) ?_
 unfold vc
 unfold wp.qbU at H
 have W := MovW.refl w (InW t J)
 refine qaL (fun b3 cj L5 j ag => ?_)
 have aC := c.qaD L5
 have d := d.ext ag
 have u := u.ext ag
 refine ⟨_, _, _, (d.a 1), ?_⟩
 obtain ⟨⟨aD, aE⟩, H⟩ := H
 obtain ⟨b4, ck, b5, cl, cm, cn, co, cp, cq, ah, b6, b7, L, S, X, O9, ac, b8, b9, cr, L6⟩ := OwnW.focus u aD aE (by decide) (by decide) (by decide)
 have ba := qe3 v (qge ac)
 have bb := qiQ (qe3 v (qkd ac))
 refine ⟨aD, aE, (⟨b4, b5, none⟩ : Addr), ah, ?_⟩
 try dsimp only
 try rw [b6]
 refine ⟨_, (L.a 0), _, _, _, (L.a 1), _, _, _, (L.a 2), ?_⟩
 obtain ⟨bc, H⟩ := H
 obtain ⟨bd, be, H⟩ := qaa H
 refine (cllA (qbg.con bc be S.row S.le X.row X.le)).mono ?_
 rintro _ cs ⟨rfl, Y⟩
 have c := (c.ext ag).ext Y
 have L := L.ext Y
 have S := S.ext Y
 have X := X.ext Y
 have O9 := O9.ext Y
 have n := ((Chg.refl (fun x => InW t J x ∨ InB E x ∨ x = R) w).then ag).then Y
 refine ⟨bd, rfl, ?_⟩
 obtain ⟨q, bf, H⟩ := qaa H
 refine (qc8.con bf ).mono ?_
 rintro _ ct ⟨ao, aF, rfl, a6, Z⟩
 have aG := aN c a6
 have bg := a6.qap L.lt
 have bh := aN S a6
 have bi := aN X a6
 have bj := O9.qf8 a6 (Nat.le_refl _)
 have d := (d.ext Y).ext Z
 have c := c.ext Z
 have j := (j.ext Y).ext Z
 have L := L.ext Z
 have S := S.ext Z
 have X := X.ext Z
 have O9 := O9.ext Z
 have k := a6.mono n.size
 have n := n.then Z
 refine ⟨ao, q.length, aF, rfl, ?_⟩
 have u := ((qf1.back O9 ah b7 L S X (by first | rfl | (simp only [bC, wC, List.length_set]; done) | (simp; done) | (simp; omega)) (by first | rfl | (simp only [bC, wC, List.length_set]; done) | (simp; done) | (simp; omega)) (fun _ _ => Nat.zero_le _) (fun _ _ => Nat.zero_le _) (by decide) (by decide) (by decide) b8 b9).qmd ac).unset
 have v := qe3 (qeO (qif ah (c.qa3 L.b (by decide))) ba (Own.qai S c (by decide)) bb) (qfa ac)
 have G := qe3 (qeO (qif ah bg) bj bh bi) (qfa ac)
 obtain ⟨bk, ⟨bl, bm⟩, aH⟩ := H
 refine ⟨fun m_ z_ I => ∃ (o : Int) (T : List D.Warp) (a7 : List Int) (N : Nat → Prop), z_ = (o, ()) ∧ bk m_ (o, T, a7, ()) ∧ Chg (fun x => InW t J x ∨ InB E x ∨ x = R) w I ∧ OwnW 52 el91 el3 I 0 N t aa T ∧ p.Warps.length = T.length ∧ MovW w (InW t J) (InW t N) ∧ Dis (InW t N) (InB E) ∧ Dis (InW t N) (InB ao) ∧ Own el3 I 0 E a5 a7 ∧ p.Memory.length = a7.length ∧ Blk I R 33 (bC ab af t aa E a5 p) ∧ Blk I b3 84 (iC F) ∧ Own el3 I w.heap.size ao aF q, ⟨bl, 0, p.Warps, p.Memory, J, rfl, bm, n, u, (by first | rfl | assumption | omega | (simp; done) | (simp; omega) | (simp; assumption)), W, v, G, c, (by first | rfl | assumption | omega | (simp; done) | (simp; omega) | (simp; assumption)), d, j, k⟩, ?_⟩
 rintro bn _ cu ⟨o, T, a7, N, rfl, aI, n, u, aJ, W, v, G, c, a3, d, j, k⟩
 have H := aH bn _ aI
 clear aH aI
 try dsimp only at H ⊢
 apply brc H<;>intro h H
 ·obtain ⟨⟨aK, aL⟩, H⟩ := H
  obtain ⟨bo, bp, bq⟩ := Row.at k.row aK aL
  refine ⟨aK, aL, bo, bp, _, (bq 0 _ rfl), _, _, _, (d.a 1), ?_⟩
  obtain ⟨⟨aM, ap⟩, H⟩ := H
  obtain ⟨br, cv, bs, cw, cx, bt, aO, cy, cz, z, bu, ai, f, i, m, y, s, aj, ad, cA, cB⟩ := OwnW.focus u aM ap (by decide) (by decide) (by decide)
  have bv := W.sub (qkd s)
  have a8 := qe3 v (qge s)
  have a4 := qiQ (qe3 v (qkd s))
  have ak := qe3 G (qge s)
  have ae := qiQ (qe3 G (qkd s))
  refine ⟨aM, (by first | exact ap | omega | (simp at ap ⊢; omega)), (⟨br, bs, none⟩ : Addr), z, ?_⟩
  try dsimp only
  try rw [bu]
  refine ⟨_, (f.a 0), _, _, _, (f.a 1), _, _, _, (f.a 2), ?_⟩
  obtain ⟨aP, H⟩ := H
  refine (cllA (qbr.con aP i.row i.le m.row m.le)).mono ?_
  rintro _ bw ⟨rfl, U⟩
  have d := d.ext U
  have c := c.ext U
  have j := j.ext U
  have k := k.ext U
  have f := f.ext U
  have i := i.ext U
  have m := m.ext U
  have y := y.ext U
  have n := n.then U
  have bz : ((wrap .i64 ((rd q o) * 4)).toNat) ≤ (List.take ((wrap .i64 ((wrap .i64 ((rd q o) + 1)) * 4)).toNat) ((rd T K).Regs)).length := qbr.cut aP
  have a9 := (m.take ((wrap .i64 ((wrap .i64 ((rd q o) + 1)) * 4)).toNat)).drop (l := ((wrap .i64 ((rd q o) * 4)).toNat)) bz
  refine ⟨(cutA aO ((wrap .i64 ((rd q o) * 4)).toNat) bt 1), (List.drop ((wrap .i64 ((rd q o) * 4)).toNat) (List.take ((wrap .i64 ((wrap .i64 ((rd q o) + 1)) * 4)).toNat) ((rd T K).Regs))).length, (aO - ((wrap .i64 ((rd q o) * 4)).toNat)), rfl, _, (j.a 0), ?_⟩
  apply brc H<;>intro h H
  ·refine ⟨(fun _ => False), _, noM (j.a 1), _, _, _, noM (d.a 2), _, noM (j.a 2), ?_⟩
   obtain ⟨⟨aQ, aR⟩, H⟩ := H
   obtain ⟨bA, bB, bD⟩ := Row.at a9.row aQ aR
   refine ⟨aQ, aR, bA, bB, _, ⟨(fun e => e), (bD 0 _ rfl)⟩, by decide, ?_⟩
   obtain ⟨⟨aS, aq⟩, H⟩ := H
   obtain ⟨bE, bF, bG⟩ := Row.at c.row aS aq
   refine ⟨aS, (by first | exact aq | omega | (simp at aq ⊢; omega)), bE, bF, _, ⟨(fun e => e), (bG 0 _ rfl)⟩, ?_⟩
   obtain ⟨⟨ar, au⟩, H⟩ := H
   obtain ⟨bH, av, cC⟩ := Row.at a9.row ar au
   refine ⟨ar, au, bH, av, ?_⟩
   have d := d.ext (Ext.drew _)
   have j := j.ext (Ext.drew _)
   have f := f.ext (Ext.drew _)
   have i := i.ext (Ext.drew _)
   have m := m.ext (Ext.drew _)
   refine Own.qgh (hi := ((wrap .i64 ((wrap .i64 ((rd q o) + 1)) * 4)).toNat)) m av ar au 0 [(iv (rd a7 (Int.tmod (rd (List.drop ((wrap .i64 ((rd q o) * 4)).toNat) (List.take ((wrap .i64 ((wrap .i64 ((rd q o) + 1)) * 4)).toNat) ((rd T K).Regs))) F.B) 32)))] (rd a7 (Int.tmod (rd (List.drop ((wrap .i64 ((rd q o) * 4)).toNat) (List.take ((wrap .i64 ((wrap .i64 ((rd q o) + 1)) * 4)).toNat) ((rd T K).Regs))) F.B) 32)) rfl (Nat.le_of_ble_eq_true rfl) rfl (fun cD bI V bJ => ?_)
   obtain ⟨cE, a0, bK⟩ := qgN av
   rw [← bK] at V bJ
   have d := d.chg V (fun e => ((m.qa3 d (by decide))) _ a0 e.symm)
   have c := (c.ext (Ext.drew _)).chg V (((a4).symm).left a0)
   have j := j.chg V (fun e => ((m.qa3 j (by decide))) _ a0 e.symm)
   have k := (k.ext (Ext.drew _)).chg V (((ae).symm).left a0)
   have f := f.chg V (fun e => ((m.qa3 f.b (by decide))) _ a0 e.symm)
   have i := i.chg V (((Own.qai i m (by decide))).left a0)
   have y := (y.ext (Ext.drew _)).chg V (fun e => ad _ e ⟨_, a0, rfl⟩)
   have n := (n.then (Ext.drew _)).chgb V ((bv _ ⟨_, a0, rfl⟩).elim (fun bL => Or.inr (Or.inl bL)) Or.inl)
   have m := bI
   have u := (qf1.back y z ai f i m (by first | rfl | (simp only [bC, wC, List.length_set]; done) | (simp; done) | (simp; omega)) (by first | rfl | (simp only [bC, wC, List.length_set]; done) | (simp; done) | (simp; omega)) (fun _ _ => Nat.zero_le _) (fun _ _ => Nat.zero_le _) (by decide) (by decide) (by decide) aj ad).qmd s
   have v := qe3 (qeO (qif z (c.qa3 f.b (by decide))) a8 (Own.qai i c (by decide)) a4) (qfa s)
   have G := qe3 (qeO (qif z (k.qa3 f.b (by decide))) ak (Own.qai i k (by decide)) ae) (qfa s)
   obtain ⟨bM, bN, bO⟩ := H
   exact ⟨bM, bN, _, _, _, N, rfl, bO, n, u, (by first | rfl | assumption | omega | (simp; done) | (simp; omega) | (simp; assumption)), W, v, G, c, (by first | rfl | assumption | omega | (simp; done) | (simp; omega) | (simp; assumption)), (by first | exact d | (simp only [bC, wC, List.length_set, ← a3]; exact d)), j, k⟩
  apply brc H<;>intro h H
  ·refine ⟨(fun _ => False), _, _, _, noM (d.a 2), _, noM (j.a 1), ?_⟩
   obtain ⟨⟨aT, aU⟩, H⟩ := H
   obtain ⟨bP, bQ, bR⟩ := Row.at a9.row aT aU
   refine ⟨aT, aU, bP, bQ, _, ⟨(fun e => e), (bR 0 _ rfl)⟩, by decide, _, noM (j.a 2), ?_⟩
   obtain ⟨⟨aV, aW⟩, H⟩ := H
   obtain ⟨bS, bT, bU⟩ := Row.at a9.row aV aW
   refine ⟨aV, aW, bS, bT, _, ⟨(fun e => e), (bU 0 _ rfl)⟩, ?_⟩
   obtain ⟨⟨aw, al⟩, H⟩ := H
   obtain ⟨bV, O, cF⟩ := Row.at c.row aw al
   refine ⟨aw, (by first | exact al | omega | (simp at al ⊢; omega)), bV, O, ?_⟩
   have d := d.ext (Ext.drew _)
   have c := c.ext (Ext.drew _)
   have f := f.ext (Ext.drew _)
   have i := i.ext (Ext.drew _)
   refine Own.stA c O aw al 0 (rd (List.drop ((wrap .i64 ((rd q o) * 4)).toNat) (List.take ((wrap .i64 ((wrap .i64 ((rd q o) + 1)) * 4)).toNat) ((rd T K).Regs))) F.B) (fun cG P4 a1 cH => ?_)
   have d := d.chg a1 (fun e => ((c.qa3 d (by decide))) _ O e.symm)
   have j := (j.ext (Ext.drew _)).chg a1 (fun e => (aC) _ O e.symm)
   have k := (k.ext (Ext.drew _)).chg a1 (((aG).symm).left O)
   have f := f.chg a1 (fun e => ((c.qa3 f.b (by decide))) _ O e.symm)
   have i := i.chg a1 (((Own.qai i c (by decide))).left O)
   have m := (m.ext (Ext.drew _)).chg a1 ((a4).left O)
   have y := (y.ext (Ext.drew _)).chg a1 (fun e => a8 _ e ⟨_, O, rfl⟩)
   have n := (n.then (Ext.drew _)).chgb a1 (Or.inr (Or.inr (Or.inl ⟨_, O, rfl⟩)))
   have c := P4
   have u := ((qf1.back y z ai f i m (by first | rfl | (simp only [bC, wC, List.length_set]; done) | (simp; done) | (simp; omega)) (by first | rfl | (simp only [bC, wC, List.length_set]; done) | (simp; done) | (simp; omega)) (fun _ _ => Nat.zero_le _) (fun _ _ => Nat.zero_le _) (by decide) (by decide) (by decide) aj ad).qmd s).unset
   have v := qe3 (qeO (qif z (c.qa3 f.b (by decide))) a8 (Own.qai i c (by decide)) a4) (qfa s)
   have G := qe3 (qeO (qif z (k.qa3 f.b (by decide))) ak (Own.qai i k (by decide)) ae) (qfa s)
   obtain ⟨bW, bX, bY⟩ := H
   exact ⟨bW, bX, _, _, _, N, rfl, bY, n, u, (by first | rfl | assumption | omega | (simp; done) | (simp; omega) | (simp; assumption)), W, v, G, c, (by first | rfl | assumption | omega | (simp; done) | (simp; omega) | (simp; assumption)), (by first | exact d | (simp only [bC, wC, List.length_set, ← a3]; exact d)), j, k⟩
  apply brc H<;>intro h H
  ·refine ⟨_, (j.a 1), ?_⟩
   obtain ⟨⟨aX, aY⟩, H⟩ := H
   obtain ⟨bZ, c0, c1⟩ := Row.at a9.row aX aY
   refine ⟨aX, aY, bZ, c0, _, (c1 0 _ rfl), by decide, (fun _ => False), ?_⟩
   have hBz := n
   have Z4 := c
   refine ⟨_, _, _, noM (d.a 2), _, _, _, noM (d.a 2), ?_⟩
   obtain ⟨⟨aZ, ax⟩, H⟩ := H
   obtain ⟨c2, c3, c4⟩ := Row.at c.row aZ ax
   refine ⟨aZ, (by first | exact ax | omega | (simp at ax ⊢; omega)), c2, c3, _, ⟨(fun e => e), (c4 0 _ rfl)⟩, _, noM (j.a 2), ?_⟩
   obtain ⟨⟨b0, b1⟩, H⟩ := H
   obtain ⟨c5, c6, c7⟩ := Row.at a9.row b0 b1
   refine ⟨b0, b1, c5, c6, _, ⟨(fun e => e), (c7 0 _ rfl)⟩, ?_⟩
   have d := d.ext (Ext.drew _)
   have c := c.ext (Ext.drew _)
   have j := j.ext (Ext.drew _)
   have k := k.ext (Ext.drew _)
   have f := f.ext (Ext.drew _)
   have i := i.ext (Ext.drew _)
   have m := m.ext (Ext.drew _)
   have y := y.ext (Ext.drew _)
   have n := n.then (Ext.drew _)
   have ay := (Chg.refl (fun _ => False) bw).then (Ext.drew _)
   obtain ⟨b2, c8, H⟩ := qaa H
   refine (qc0.con c8 ).mono ?_
   rintro _ cI ⟨rfl, P⟩
   have d := d.ext P
   have c := c.ext P
   have f := f.ext P
   have i := i.ext P
   have ay := ay.then P
   refine ⟨b2, rfl, qaw ay, ?_⟩
   obtain ⟨⟨az, am⟩, H⟩ := H
   obtain ⟨c9, Q, cJ⟩ := Row.at Z4.row az am
   refine ⟨az, (by first | exact am | omega | (simp at am ⊢; omega)), c9, Q, ?_⟩
   refine Own.stA c Q az am 0 b2 (fun cK P4 a2 cL => ?_)
   have d := d.chg a2 (fun e => ((c.qa3 d (by decide))) _ Q e.symm)
   have j := (j.ext P).chg a2 (fun e => (aC) _ Q e.symm)
   have k := (k.ext P).chg a2 (((aG).symm).left Q)
   have f := f.chg a2 (fun e => ((c.qa3 f.b (by decide))) _ Q e.symm)
   have i := i.chg a2 (((Own.qai i c (by decide))).left Q)
   have m := (m.ext P).chg a2 ((a4).left Q)
   have y := (y.ext P).chg a2 (fun e => a8 _ e ⟨_, Q, rfl⟩)
   have n := (n.then P).chgb a2 (Or.inr (Or.inr (Or.inl ⟨_, Q, rfl⟩)))
   have c := P4
   have u := ((qf1.back y z ai f i m (by first | rfl | (simp only [bC, wC, List.length_set]; done) | (simp; done) | (simp; omega)) (by first | rfl | (simp only [bC, wC, List.length_set]; done) | (simp; done) | (simp; omega)) (fun _ _ => Nat.zero_le _) (fun _ _ => Nat.zero_le _) (by decide) (by decide) (by decide) aj ad).qmd s).unset
   have v := qe3 (qeO (qif z (c.qa3 f.b (by decide))) a8 (Own.qai i c (by decide)) a4) (qfa s)
   have G := qe3 (qeO (qif z (k.qa3 f.b (by decide))) ak (Own.qai i k (by decide)) ae) (qfa s)
   obtain ⟨ca, cb, cc⟩ := H
   exact ⟨ca, cb, _, _, _, N, rfl, cc, n, u, (by first | rfl | assumption | omega | (simp; done) | (simp; omega) | (simp; assumption)), W, v, G, c, (by first | rfl | assumption | omega | (simp; done) | (simp; omega) | (simp; assumption)), (by first | exact d | (simp only [bC, wC, List.length_set, ← a3]; exact d)), j, k⟩
  have u := ((qf1.back y z ai f i m (by first | rfl | (simp only [bC, wC, List.length_set]; done) | (simp; done) | (simp; omega)) (by first | rfl | (simp only [bC, wC, List.length_set]; done) | (simp; done) | (simp; omega)) (fun _ _ => Nat.zero_le _) (fun _ _ => Nat.zero_le _) (by decide) (by decide) (by decide) aj ad).qmd s).unset
  have v := qe3 (qeO (qif z (c.qa3 f.b (by decide))) a8 (Own.qai i c (by decide)) a4) (qfa s)
  have G := qe3 (qeO (qif z (k.qa3 f.b (by decide))) ak (Own.qai i k (by decide)) ae) (qfa s)
  obtain ⟨cd, ce, cf⟩ := H
  exact ⟨cd, ce, _, _, _, N, rfl, cf, n, u, (by first | rfl | assumption | omega | (simp; done) | (simp; omega) | (simp; assumption)), W, v, G, c, (by first | rfl | assumption | omega | (simp; done) | (simp; omega) | (simp; assumption)), (by first | exact d | (simp only [bC, wC, List.length_set, ← a3]; exact d)), j, k⟩
 cases hr.trans H.symm
 exact ⟨t, aa, N, rfl, (by first | exact d | (simp only [bC, wC, List.length_set, ← aJ, ← a3]; exact d)), rfl, (u.mono (Nat.zero_le _)), W, (by first | exact c | (simp only [bC, wC, List.length_set, ← aJ, ← a3]; exact c)), (by first | (simp only [bC, wC, List.length_set]; done) | (simp only [bC, wC, List.length_set, ← a3]; done) | (simp; done) | (simp; omega) | omega), n⟩
def qbj.vc (a : Addr) (c : Int) (w : World) (K : VK) : Prop :=
  ldS w (a.add 0) fun H I J => ldS w (a.add 1) fun L M N => ldS w (a.add 2) fun O P Q => ldI w (a.add 3) fun R => ldI w (a.add 4) fun S => Cl 68 #[(.agg (vB H I J L M N O P Q R S)), (iv c)] w fun T U => (∃ V : Value, (∃ (m : Int), True ∧ ∃ (n : Int), True ∧ ∃ (o : Int), True ∧ ∃ (p : Int), True ∧ V = (.agg #[(iv m), (iv n), (iv o), (iv p)]) ∧ ∃ W : Value, (∃ (s : Bool), W = (.bool s) ∧ T = (.tuple #[(.agg #[(iv m), (iv n), (iv o), (iv p)]), (.bool s)]) ∧ newK U (.cells #[(iv 0), (iv 0), (iv 0), (iv 0)] 84) fun d X => qa5 (bx d) [(iv m), (iv n), (iv o), (iv p)] 0 X fun h => qfo (σ := Unit) (fun t => ldI h ((bx d).add 0) fun Y => ldI h ((bx d).add 1) fun Z => ldI h ((bx d).add 2) fun a0 => ldI h ((bx d).add 3) fun a1 => Cl 121 #[(.agg #[(iv Y), (iv Z), (iv a0), (iv a1)])] h fun a2 b => (∃ (u : Bool), a2 = (.bool u) ∧ qa1 u ((∃ v : Nat → Prop, ldSM v b (a.add 1) 0 fun a3 a4 aX => (idx c a4 a3 fun a5 => ldSM v b (a.add 0) 0 fun a6 a7 a8 => Cl 130 #[(.pointer (some (a5.add ((c.toNat) * 3)))), (sv a6 a7 a8)] b.drew fun a9 aa => (∃ (ab : Bool), a9 = (.bool ab) ∧ t () aa)))) (qfo (σ := Unit) (fun x => ldI b (((bx d).add 0).add 0) fun ac => qa1 (ac == 16) (((0 : Int) ≤ c ∧ ((∃ (y : Int), b.drew.cell? ((a.add 3).add 0) = some (iv y) ∧ ((qa5 (a.add 3) [(iv (qh0 .i64 y (wrap .i64 (1 * 2 ^ (min (c.toNat) (IntKind.bits .i64))))))] 0 b.drew fun ad => x () ad) ∧ True)) ∧ True))) (ldI b ((bx d).add 0) fun ae => ldI b ((bx d).add 1) fun af => ldI b ((bx d).add 2) fun ag => ldI b ((bx d).add 3) fun ah => Cl 131 #[(.pointer (some a)), (iv c), (.agg #[(iv ae), (iv af), (iv ag), (iv ah)])] b fun ai aj => (ai = (.tuple #[]) ∧ x () aj))) fun aY j => ldS j ((a.add 1).add 0) fun ak al aZ => (idx c al ak fun am => ldS j (((am.add ((c.toNat) * 3)).add 1).add 0) fun z f b0 => (idx (wrap .i64 (((f : Nat) : Int) - 1)) f z fun an => ldI j (((an.add (((wrap .i64 (((f : Nat) : Int) - 1)).toNat) * 3)).add 0).add 0) fun ao => (idx (wrap .i64 (((f : Nat) : Int) - 1)) f z fun ap => qa5 ((ap.add (((wrap .i64 (((f : Nat) : Int) - 1)).toNat) * 3)).add 0) [(iv (wrap .i64 (ao + 1)))] 0 j fun q => (∃ A : Nat → Prop, ldSM A q (a.add 1) 0 fun aq ar b1 => (idx c ar aq fun au => ldSM A q (a.add 0) 0 fun b2 av b3 => Cl 132 #[(.pointer (some (au.add ((c.toNat) * 3)))), (iv ((av : Nat) : Int))] q.drew fun aw ax => (aw = (.tuple #[]) ∧ t () ax))))))))) fun b4 k => ldI k ((a.add 3).add 0) fun ay => qa1 (ay == 0) (K (.bool true) k) (ldS k ((a.add 1).add 0) fun az B b5 => qdh (σ := Int × Unit) (fun e i C => qa1 (decide (e.1 < ((B : Nat) : Int))) ((idx e.1 B az fun r => ldI i ((r.add ((e.1.toNat) * 3)).add 0) fun aA => ldS i ((r.add ((e.1.toNat) * 3)).add 1) fun aB aC aD => ldS i ((r.add ((e.1.toNat) * 3)).add 2) fun aE aF aG => newK i (.cells #[(iv 0), (sv none 0 0), (sv none 0 0)] 52) fun D aH => qa5 (bx D) [(iv aA), (sv aB aC aD), (sv aE aF aG)] 0 aH fun g => ldS g (a.add 0) fun aI aJ aK => ldS g (a.add 1) fun aL aM aN => ldS g (a.add 2) fun aO aP aQ => ldI g (a.add 3) fun aR => ldI g (a.add 4) fun aS => Cl 65 #[(.agg (vB aI aJ aK aL aM aN aO aP aQ aR aS)), (iv e.1)] g fun aT l => (∃ (E : Bool), aT = (.bool E) ∧ qa1 (!E) (ldS l (((bx D).add 1).add 0) fun b6 aU b7 => qa1 (decide (((aU : Nat) : Int) > 0)) (K (.bool true) l) (C ((wrap .i64 (e.1 + 1)), ()) l)) (C ((wrap .i64 (e.1 + 1)), ()) l)))) (qa5 (a.add 3) [(iv 0)] 0 i fun F => ldI F ((a.add 4).add 0) fun aV => qa5 (a.add 4) [(iv (wrap .i64 (aV + 1)))] 0 F fun G => ldI G ((a.add 4).add 0) fun aW => K (.bool (decide (aW ≤ 100000))) G)) (0, ()) k))))

def qbj.ann : Ann := (.seq .l (.seq .l (.cut [] (.seq .l (.two .l (.cut [] (.seq .l (.two .each .l)) (.seq .l (.seq .l .l))))) (.seq (.seq .l (.two (.seq .l .l) .l)) (.seq (.seq .l (.one (.loop [(87, .int .i64)] (.seq .l (.seq (.two .l .l) (.seq (.one (.seq .l (.seq .l (.two (.seq .l .l) .l)))) .l)))))) (.seq .l (.seq .l (.seq .l .l))))))))

theorem qbj.con {j : D.Block} {x Q ab y : Nat} {K t m : OA} {z : Nat → Prop} {G : Int} {r : Bool × D.Block} {w : World} (hp : M.qeE j G) (hr : r = M.qbj j G) (c : Blk w x 33 (bC K Q t ab m y j)) (X : Row el84 w K j.Code) (an : j.Code.length ≤ Q) (n : OwnW 52 el91 el3 w 0 z t ab j.Warps) (e : Own el3 w 0 m y j.Memory) (Y : Dis (InW t z) (InB m)) (L : j.Code ≠ [] → ∀ g, InB K g → ¬ (fun l => InW t z l ∨ InB m l ∨ l = x) g) :
    Cl 70 #[(.pointer (some (bx x))), (iv G)] w (fun v_ p => ∃ (aF : OA) (aU : Nat) (aV : Nat → Prop), v_ = (.bool r.1) ∧ Blk p x 33 #[(sv K r.2.Code.length Q), (sv aF r.2.Warps.length aU), (sv m j.Memory.length y), (iv r.2.Waiting), (iv r.2.Phase)] ∧ r.2.Code = j.Code ∧ OwnW 52 el91 el3 p 0 aV aF aU r.2.Warps ∧ MovW w (InW t z) (InW aF aV) ∧ Own el3 p 0 m y r.2.Memory ∧ r.2.Memory.length = j.Memory.length ∧ Chg (fun l => InW t z l ∨ InB m l ∨ l = x) w p) := by
 have H := wp.qbj.math j G hp
 have i := Chg.refl (fun l => InW t z l ∨ InB m l ∨ l = x) w
 refine begK mixed Tryz.f70 ann (vc (bx x) G) ?_
 unfold vc
 unfold wp.qbj at H
 have R := MovW.refl w (InW t z)
 refine ⟨_, _, _, (c.a 0), _, _, _, (c.a 1), _, _, _, (c.a 2), _, (c.a 3), _, (c.a 4), ?_⟩
 obtain ⟨bk, H⟩ := H
 obtain ⟨U, bl, H⟩ := qaa H
 refine (qaC.con bk bl (X.chgS i L) an n.row n.le e.row e.le).mono ?_
 rintro _ d2 ⟨rfl, ao⟩
 have c := c.ext ao
 have n := n.ext ao
 have e := e.ext ao
 have i := i.then ao
 refine ⟨(.agg (iC U.1)), U.1.Op, trivial, U.1.A, trivial, U.1.B, trivial, U.1.C, trivial, rfl, (.bool U.2), U.2, rfl, rfl, ?_⟩
 refine qaL (fun d3 d4 L5 P5 ap => ?_)
 have bm := c.ne L5
 have bn := n.qdp L5
 have bo := e.qaD L5
 have e := e.ext ap
 have E := P5
 have L5 := Nat.le_trans i.size L5
 refine qda E (o := 0) (cs' := (iC U.1)) rfl rfl (Nat.le_of_ble_eq_true rfl) rfl (fun d5 E aq => ?_)
 have c := (c.ext ap).chg aq bm
 have n := (n.ext ap).chg aq bn
 have aG := e.chg aq bo
 have e := aG
 have i := (i.then ap).chgb aq (Or.inl L5)
 obtain ⟨bp, bq, H⟩ := qd9 H
 refine ⟨fun z_ p => ∃ (J : List D.Warp) (ar a4 : Int) (ac : List Int) (I : OA) (N : Nat) (V : Nat → Prop), z_ = (()) ∧ bp (J, ar, a4, ac, ()) ∧ Chg (fun l => InW t z l ∨ InB m l ∨ l = x) w p ∧ Blk p x 33 #[(sv K j.Code.length Q), (sv I J.length N), (sv m j.Memory.length y), (iv ar), (iv a4)] ∧ OwnW 52 el91 el3 p 0 V I N J ∧ MovW w (InW t z) (InW I V) ∧ Own el3 p 0 m y ac ∧ j.Memory.length = ac.length ∧ Dis (InW I V) (InB m), ?_, ?_⟩
 ·refine ⟨_, (E.a 0), _, (E.a 1), _, (E.a 2), _, (E.a 3), ?_⟩
  obtain ⟨br, bs, H⟩ := qaa H
  refine (qcF.con bs ).mono ?_
  rintro _ d6 ⟨rfl, ad⟩
  have c := c.ext ad
  have n := n.ext ad
  have e := e.ext ad
  have E := E.ext ad
  have i := i.then ad
  refine ⟨br, rfl, ?_⟩
  apply brc H<;>intro h H
  ·obtain ⟨⟨bt, bu⟩, H⟩ := H
   obtain ⟨bv, d7, bw, d8, d9, da, db, dc, bz, ae, bA, bB, S, af, au, Z, ag, aW, aX, bD, dd⟩ := OwnW.focus n bt bu (by decide) (by decide) (by decide)
   have aH := R.sub (qq1 ae)
   have aI := R.sub (qq7 ag)
   have aJ := R.sub (qkd ag)
   have bE := R.sub (qge ag)
   have bF := qe3 Y (qge ag)
   have aY := qiQ (qe3 Y (qkd ag))
   refine ⟨(fun _ => False), _, _, _, noM (c.a 1), ?_⟩
   obtain ⟨⟨bG, aZ⟩, H⟩ := H
   refine ⟨bG, (by first | exact aZ | omega | (simp at aZ ⊢; omega)), (⟨bv, bw, none⟩ : Addr), ae, ?_⟩
   try dsimp only
   try rw [bA]
   refine ⟨_, _, _, noM (c.a 0), ?_⟩
   have c := c.ext (Ext.drew _)
   have e := e.ext (Ext.drew _)
   have S := S.ext (Ext.drew _)
   have af := af.ext (Ext.drew _)
   have au := au.ext (Ext.drew _)
   have Z := Z.ext (Ext.drew _)
   have i := i.then (Ext.drew _)
   obtain ⟨bH, H⟩ := H
   obtain ⟨bI, bJ, H⟩ := qaa H
   refine (qbo.con bH bJ (by first | exact S | (simp only [bC, wC, List.length_set]; exact S)) (af.mono (Nat.zero_le _)) (au.mono (Nat.zero_le _)) (X.chgS i L) an (fun O => (fun g d => (fun f => f.elim ((fun g d f => ((aI _ f).elim (fun q => Or.inr (Or.inl q)) Or.inl).elim (fun ah => Nat.not_le.2 (X.old O g d) ah) (L O g d)) g d) (fun f => f.elim ((fun g d f => ((aJ _ f).elim (fun q => Or.inr (Or.inl q)) Or.inl).elim (fun ah => Nat.not_le.2 (X.old O g d) ah) (L O g d)) g d) ((fun g d f => ((aH _ f).elim (fun q => Or.inr (Or.inl q)) Or.inl).elim (fun ah => Nat.not_le.2 (X.old O g d) ah) (L O g d)) g d)))))).mono ?_
   rintro _ de ⟨bK, df, bL, dg, rfl, bM, bN, b0, bO, aK, av⟩
   have bP := aI.mov b0 i.size
   have bQ := Z.qmt aW b0
   have bR := aJ.mov aK i.size
   have bS := qec.mov (aY).symm aK e
   have bT := Z.qmt aX aK
   have c := c.chgS av (fun f => f.elim ((af.qa3 c (by decide))).inb (fun f => f.elim ((au.qa3 c (by decide))).inb ((Blk.qhY c S.b (by decide)))))
   have e := e.chgS av (fun g d => (fun f => f.elim (((Own.qai e af (by decide))).inb g d) (fun f => f.elim (((aY).symm).inb g d) ((qbT (e.qa3 S.b (by decide))) g d))))
   have Z := Z.kept av (fun g d => (fun f => f.elim (aW g d) (fun f => f.elim (aX g d) ((qj4 bD) g d))))
   have i := i.chg av (fun g => (fun f => f.elim ((fun g d => ((aI _ d).elim (fun q => Or.inr (Or.inl q)) Or.inl)) g) (fun f => f.elim ((fun g d => ((aJ _ d).elim (fun q => Or.inr (Or.inl q)) Or.inl)) g) ((fun g d => ((aH _ d).elim (fun q => Or.inr (Or.inl q)) Or.inl)) g))))
   have S := bM
   have b1 := bN
   have bU := bO
   refine ⟨bI.1, rfl, ?_⟩
   have n := (qf1.back Z ae bB S b1 bU rfl rfl (fun _ _ => Nat.zero_le _) (fun _ _ => Nat.zero_le _) (by decide) (by decide) (by decide) bQ bT)
   have Y := qeO (qif ae (e.qa3 S.b (by decide))) bF (Own.qai b1 e (by decide)) (bS).symm
   have R := MovW.back (aH.sub (fun _ d => qod ae d)) bE bP bR
   exact ⟨_, _, _, _, t, ab, (fun k => bz k ∨ InB bK k ∨ InB bL k), rfl, H, i, (by first | exact c | (simp only [bC, wC, List.length_set]; exact c)), n, R, e, (by first | rfl | assumption | omega | (simp; done) | (simp; omega) | (simp; assumption)), Y⟩
  obtain ⟨bV, bW, H⟩ := qd9 H
  refine ⟨fun z_ p => ∃ (P : List D.Warp) (aw ax : Int) (ai : List Int) (a5 : OA) (ay : Nat) (az : Nat → Prop), z_ = (()) ∧ bV (P, aw, ax, ai, ()) ∧ Chg (fun l => InW t z l ∨ InB m l ∨ l = x) w p ∧ Blk p x 33 #[(sv K j.Code.length Q), (sv a5 P.length ay), (sv m j.Memory.length y), (iv aw), (iv ax)] ∧ OwnW 52 el91 el3 p 0 az a5 ay P ∧ MovW w (InW t z) (InW a5 az) ∧ Own el3 p 0 m y ai ∧ j.Memory.length = ai.length ∧ Dis (InW a5 az) (InB m), ?_, ?_⟩
  ·refine ⟨_, (E.a 0), ?_⟩
   apply brc H<;>intro h H
   ·have c := c.ext (Ext.drew _)
    have n := n.ext (Ext.drew _)
    have e := e.ext (Ext.drew _)
    obtain ⟨bX, H⟩ := H
    refine ⟨bX, ?_⟩
    refine qcn ?_
    refine ⟨_, (c.a 3), ?_⟩
    refine qcn ?_
    refine stB c 3 #[(sv K j.Code.length Q), (sv t j.Warps.length ab), (sv m j.Memory.length y), (iv (qh0 .i64 j.Waiting (wrap .i64 (1 * 2 ^ (min (G.toNat) (IntKind.bits .i64)))))), (iv j.Phase)] (fun dh P1 aL => ?_)
    have n := n.chg aL (n.qd0 c (by decide) (by decide) (by decide))
    have e := e.chg aL (e.qa3 c (by decide))
    have i := (i.then (Ext.drew _)).chgb aL (Or.inr (Or.inr (Or.inr rfl)))
    have c := P1
    exact ⟨_, _, _, _, t, ab, z, rfl, H, i, c, n, R, e, (by first | rfl | assumption | omega | (simp; done) | (simp; omega) | (simp; assumption)), Y⟩
   refine ⟨_, (E.a 0), _, (E.a 1), _, (E.a 2), _, (E.a 3), ?_⟩
   obtain ⟨bY, H⟩ := H
   obtain ⟨di, bZ, H⟩ := qaa H
   refine (qbU.con bY bZ c (X.chgS i L) an (n.mono (Nat.zero_le _)) (e.mono (Nat.zero_le _)) Y (fun O => (fun g d => (fun f => f.elim ((fun g d f => L O g d (Or.inl f)) g d) (fun f => f.elim ((fun g d f => L O g d (Or.inr (Or.inl f))) g d) ((fun g d f => L O g d (Or.inr (Or.inr f))) g d)))))).mono ?_
   rintro _ dj ⟨c0, c1, c2, rfl, Q1, c3, c4, b2, Q4, b3, c5⟩
   simp only [bC, wC, c3] at Q1
   try dsimp only at b3
   have c6 := R.trans b2 i.size
   have c7 := b2.dis Y e.oldA
   have i := i.chg c5 (fun g => (fun f => f.elim ((fun g d => ((R _ d).elim (fun q => Or.inr (Or.inl q)) Or.inl)) g) (fun f => f.elim ((fun g d => (Or.inr (Or.inr (Or.inl d)))) g) ((fun g d => Or.inr (Or.inr (Or.inr d))) g))))
   have c := Q1
   have e := Q4
   have c8 := c4
   refine ⟨rfl, ?_⟩
   exact ⟨_, _, _, _, c0, c1, c2, rfl, H, i, (by first | exact c | (simp only [bC, wC, List.length_set, b3]; exact c)), c8, c6, e, (by first | rfl | assumption | omega | (simp; done) | (simp; omega) | (simp; assumption)), c7⟩
  rintro _ dk ⟨P, aw, ax, ai, a5, ay, az, rfl, H, i, c, aM, a6, e, c9, aA⟩
  have H := bW _ H
  try dsimp only at H ⊢
  refine ⟨_, _, _, (c.a 1), ?_⟩
  obtain ⟨⟨b4, b5⟩, H⟩ := H
  obtain ⟨b6, dl, b7, dm, dn, ca, dp, dq, cb, a7, b8, cc, u, F, v, a8, aj, aN, cd, ce, dr⟩ := OwnW.focus aM b4 b5 (by decide) (by decide) (by decide)
  have b9 := a6.sub (qq1 a7)
  have aO := a6.sub (qq7 aj)
  have cf := a6.sub (qkd aj)
  have cg := a6.sub (qge aj)
  have ch := qe3 aA (qge aj)
  have ci := qiQ (qe3 aA (qkd aj))
  refine ⟨b4, b5, (⟨b6, b7, none⟩ : Addr), a7, ?_⟩
  try dsimp only
  try rw [b8]
  refine ⟨_, _, _, (u.a 1), ?_⟩
  obtain ⟨⟨ba, aP⟩, H⟩ := H
  obtain ⟨cj, ck, cl⟩ := Row.at F.row ba aP
  refine ⟨ba, (by first | exact aP | omega | (simp at aP ⊢; omega)), cj, ck, _, (cl 0 _ rfl), ?_⟩
  obtain ⟨⟨aQ, aB⟩, H⟩ := H
  obtain ⟨cm, W, ds⟩ := Row.at F.row aQ aB
  refine ⟨aQ, (by first | exact aB | omega | (simp at aB ⊢; omega)), cm, W, ?_⟩
  refine Own.stA F W aQ aB 0 (⟨(wrap .i64 ((rd ((rd P G).Frames) (wrap .i64 (((rd P G).Frames.length : Int) - 1))).Pc + 1)), (rd ((rd P G).Frames) (wrap .i64 (((rd P G).Frames.length : Int) - 1))).Stop, (rd ((rd P G).Frames) (wrap .i64 (((rd P G).Frames.length : Int) - 1))).Mask⟩ : D.Frame) (fun dt cn a9 du => ?_)
  have c := c.chg a9 (fun d => ((F.qa3 c (by decide))) _ W d.symm)
  have e := e.chg a9 (((Own.qai e F (by decide))).left W)
  have u := u.chg a9 (fun d => ((F.qa3 u.b (by decide))) _ W d.symm)
  have v := v.chg a9 (((Own.qai v F (by decide))).left W)
  refine ⟨(fun _ => False), _, _, _, noM (c.a 1), ?_⟩
  obtain ⟨⟨co, bb⟩, H⟩ := H
  refine ⟨co, (by first | exact bb | omega | (simp at bb ⊢; omega)), (⟨b6, b7, none⟩ : Addr), a7, ?_⟩
  try dsimp only
  try rw [b8]
  refine ⟨_, _, _, noM (c.a 0), ?_⟩
  have c := c.ext (Ext.drew _)
  have e := e.ext (Ext.drew _)
  have u := u.ext (Ext.drew _)
  have F := cn.ext (Ext.drew _)
  have v := v.ext (Ext.drew _)
  have a8 := (a8.chg a9 (fun d => aN _ d ⟨_, W, rfl⟩)).ext (Ext.drew _)
  have i := (i.chgb a9 ((aO _ ⟨_, W, rfl⟩).elim (fun q => Or.inr (Or.inl q)) Or.inl)).then (Ext.drew _)
  obtain ⟨cp, H⟩ := H
  obtain ⟨dv, cq, H⟩ := qaa H
  refine (qbB.con cp cq (by first | exact u | (simp only [bC, wC, List.length_set]; exact u)) (F.mono (Nat.zero_le _)) v.row v.le (fun _ => (fun g d => (fun f => f.elim (((Own.qai v F (by decide))).inb g d) ((qbT (v.qa3 u.b (by decide))) g d))))).mono ?_
  rintro _ dw ⟨cr, dx, rfl, bc, cs, bd, ct, ak⟩
  simp only [bC, wC, ct] at bc
  have cu := aO.mov bd i.size
  have cv := a8.qmt aN bd
  have c := c.chgS ak (fun f => f.elim ((F.qa3 c (by decide))).inb ((Blk.qhY c u.b (by decide))))
  have e := e.chgS ak (fun g d => (fun f => f.elim (((Own.qai e F (by decide))).inb g d) ((qbT (e.qa3 u.b (by decide))) g d)))
  have v := v.chgS ak (fun g d => (fun f => f.elim (((Own.qai v F (by decide))).inb g d) ((qbT (v.qa3 u.b (by decide))) g d)))
  have a8 := a8.kept ak (fun g d => (fun f => f.elim (aN g d) ((qj4 ce) g d)))
  have i := i.chg ak (fun g => (fun f => f.elim ((fun g d => ((aO _ d).elim (fun q => Or.inr (Or.inl q)) Or.inl)) g) ((fun g d => ((b9 _ d).elim (fun q => Or.inr (Or.inl q)) Or.inl)) g)))
  have u := bc
  have be := cs
  refine ⟨rfl, ?_⟩
  have aM := (qf1.back a8 a7 cc u be v rfl (by first | rfl | (simp only [bC, wC, List.length_set]; done) | (simp; done) | (simp; omega)) (fun _ _ => Nat.zero_le _) (fun _ _ => Nat.zero_le _) (by decide) (by decide) (by decide) cv cd)
  have aA := qeO (qif a7 (e.qa3 u.b (by decide))) ch (Own.qai be e (by decide)) ci
  have a6 := MovW.back (b9.sub (fun _ d => qod a7 d)) cg cu cf
  exact ⟨_, aw, ax, ai, a5, ay, (fun k => cb k ∨ InB cr k ∨ InB ca k), rfl, H, i, (by first | exact c | (simp only [bC, wC, List.length_set, ← c9]; exact c)), aM, a6, e, (by first | rfl | assumption | omega | (simp; done) | (simp; omega) | (simp; assumption)), aA⟩
 rintro _ dy ⟨J, ar, a4, ac, I, N, V, rfl, H, i, c, s, aR, e, a0, dz⟩
 have H := bq _ H
 try dsimp only at H ⊢
 refine ⟨_, (c.a 3), ?_⟩
 apply brc H<;>intro h H
 ·cases hr.trans H.symm
  exact ⟨I, N, V, rfl, c, rfl, (s.mono (Nat.zero_le _)), aR, e, (by first | (simp only [bC, wC, List.length_set]; done) | (simp only [bC, wC, List.length_set, ← a0]; done) | (simp; done) | (simp; omega) | omega), i⟩
 refine ⟨_, _, _, (c.a 1), ?_⟩
 obtain ⟨cw, ⟨cx, cy⟩, bf⟩ := H
 refine ⟨fun m_ z_ p => ∃ (aa : Int), z_ = (aa, ()) ∧ cw m_ (aa, ()) ∧ Chg (fun l => InW t z l ∨ InB m l ∨ l = x) w p ∧ Blk p x 33 #[(sv K j.Code.length Q), (sv I J.length N), (sv m j.Memory.length y), (iv ar), (iv a4)] ∧ Own el3 p 0 m y ac ∧ OwnW 52 el91 el3 p 0 V I N J, ⟨cx, 0, rfl, cy, i, (by first | exact c | (simp only [bC, wC, List.length_set, ← a0]; exact c)), e, s⟩, ?_⟩
 rintro cz _ dA ⟨aa, rfl, bg, i, c, e, s⟩
 have H := bf cz _ bg
 clear bf bg
 try dsimp only at H ⊢
 apply brc H<;>intro h H
 ·obtain ⟨⟨bh, bi⟩, H⟩ := H
  obtain ⟨cA, dB, cB, cC, cD, cE, cF, dC, dD, bj, cG, cH, a1, aC, aD, aE, cI, cJ, cK, dE, dF⟩ := OwnW.focus s bh bi (by decide) (by decide) (by decide)
  refine ⟨bh, bi, (⟨cA, cB, none⟩ : Addr), bj, ?_⟩
  try dsimp only
  try rw [cG]
  refine ⟨_, (a1.a 0), _, _, _, (a1.a 1), _, _, _, (a1.a 2), ?_⟩
  refine qaL (fun dG dH T cL a2 => ?_)
  have cM := c.ne T
  have cN := e.qaD T
  have cO := a1.ne T
  have cP := aC.qaD T
  have cQ := aD.qaD T
  have cR := aE.qdp T
  have al := cL
  have T := Nat.le_trans i.size T
  refine qda al (o := 0) (cs' := #[(iv ((rd J aa).Number)), (sv cC ((rd J aa).Frames.length) cD), (sv cE ((rd J aa).Regs.length) cF)]) rfl rfl (Nat.le_of_ble_eq_true rfl) rfl (fun dI al a3 => ?_)
  have c := (c.ext a2).chg a3 cM
  have e := (e.ext a2).chg a3 cN
  have a1 := (a1.ext a2).chg a3 cO
  have aC := (aC.ext a2).chg a3 cP
  have aD := (aD.ext a2).chg a3 cQ
  have aE := (aE.ext a2).chg a3 cR
  have i := (i.then a2).chgb a3 (Or.inl T)
  refine ⟨_, _, _, (c.a 0), _, _, _, (c.a 1), _, _, _, (c.a 2), _, (c.a 3), _, (c.a 4), ?_⟩
  have s := ((qf1.back aE bj cH a1 aC aD (by first | rfl | (simp only [bC, wC, List.length_set]; done) | (simp; done) | (simp; omega)) (by first | rfl | (simp only [bC, wC, List.length_set]; done) | (simp; done) | (simp; omega)) (fun _ _ => Nat.zero_le _) (fun _ _ => Nat.zero_le _) (by decide) (by decide) (by decide) cJ cK).qmd cI).unset
  obtain ⟨cS, H⟩ := H
  obtain ⟨cT, cU, H⟩ := qaa H
  refine (qhl (by first | (simp only [bC, wC, List.length_set, ← a0]; done) | (simp; done)) (qbI.con cS cU (X.chgS i L) an s.row s.le e.row e.le)).mono ?_
  rintro _ dJ ⟨rfl, am⟩
  have c := c.ext am
  have e := e.ext am
  have al := al.ext am
  have s := s.ext am
  have i := i.then am
  refine ⟨cT, rfl, ?_⟩
  apply brc H<;>intro h H
  ·refine ⟨_, _, _, (al.a 1), ?_⟩
   apply brc H<;>intro h H
   ·cases hr.trans H.symm
    exact ⟨I, N, V, rfl, c, rfl, (s.mono (Nat.zero_le _)), aR, e, (by first | (simp only [bC, wC, List.length_set]; done) | (simp only [bC, wC, List.length_set, ← a0]; done) | (simp; done) | (simp; omega) | omega), i⟩
   obtain ⟨cV, cW, cX⟩ := H
   exact ⟨cV, cW, _, rfl, cX, i, (by first | exact c | (simp only [bC, wC, List.length_set, ← a0]; exact c)), e, s⟩
  obtain ⟨cY, cZ, d0⟩ := H
  exact ⟨cY, cZ, _, rfl, d0, i, (by first | exact c | (simp only [bC, wC, List.length_set, ← a0]; exact c)), e, s⟩
 refine stB c 3 #[(sv K j.Code.length Q), (sv I J.length N), (sv m j.Memory.length y), (iv 0), (iv a4)] (fun dK P1 aS => ?_)
 have aG := e.chg aS (e.qa3 c (by decide))
 have d1 := s.chg aS (s.qd0 c (by decide) (by decide) (by decide))
 have e := aG
 have s := d1
 have c := P1
 refine ⟨_, (c.a 4), ?_⟩
 refine stB c 4 #[(sv K j.Code.length Q), (sv I J.length N), (sv m j.Memory.length y), (iv 0), (iv (wrap .i64 (a4 + 1)))] (fun dL P1 aT => ?_)
 have e := e.chg aT (e.qa3 c (by decide))
 have s := s.chg aT (s.qd0 c (by decide) (by decide) (by decide))
 have i := (i.chgb aS (Or.inr (Or.inr (Or.inr rfl)))).chgb aT (Or.inr (Or.inr (Or.inr rfl)))
 have c := P1
 refine ⟨_, (c.a 4), ?_⟩
 cases hr.trans H.symm
 exact ⟨I, N, V, rfl, c, rfl, (s.mono (Nat.zero_le _)), aR, e, (by first | (simp only [bC, wC, List.length_set]; done) | (simp only [bC, wC, List.length_set, ← a0]; done) | (simp; done) | (simp; omega) | omega), i⟩
def qcM.vc (b : Int) (w : World) (K : VK) : Prop :=
  Cl 78 #[(iv b), (iv 0), (iv 100)] w fun c d => (∃ (a : Bool), c = (.bool a) ∧ K (.bool a) d)

def qcM.ann : Ann := (.seq .l (.seq .l .l))

theorem qcM.con {a : Int} {r : Bool} {w : World} (b : r = M.qcM a)  :
    Cl 87 #[(iv a)] w (fun c d => c = (.bool r) ∧ Ext w d) := by
 have H := wp.qcM.math a
 refine begK mixed Tryz.f87 ann (vc a) ?_
 unfold vc
 unfold wp.qcM at H
 obtain ⟨e, f, H⟩ := qaa H
 refine (qar.con f ).mono ?_
 rintro _ i ⟨rfl, g⟩
 have h := qa6 (Ext.refl w) g
 refine ⟨e, rfl, ?_⟩
 cases b.trans H.symm
 exact ⟨rfl, h⟩
def qaK.vc (a : Int) (b : Addr) (w : World) (K : VK) : Prop :=
  ldI w (b.add 0) fun c => K (.tuple #[(iv (wrap .i64 (a * c))), (.bool (decide (a < 9000)))]) w

def qaK.ann : Ann := (.seq .l (.seq .l .l))

theorem qaK.con {b c : Int} {d : Nat} {r : Int × Bool} {w : World} (e : r = M.qaK b c) (f : Blk w d 3 #[(iv c)]) :
    Cl 145 #[(iv b), (.pointer (some (bx d)))] w (fun g h => g = (.tuple #[(iv r.1), (.bool r.2)]) ∧ Ext w h) := by
 have H := wp.qaK.math b c
 have i := Ext.refl w
 refine begK mixed Tryz.f145 ann (vc b (bx d)) ?_
 unfold vc
 unfold wp.qaK at H
 refine ⟨_, (f.a 0), ?_⟩
 cases e.trans H.symm
 exact ⟨rfl, i⟩
def qbG.vc (a : Int) (w : World) (K : VK) : Prop :=
  K (.tuple #[]) w

def qbG.ann : Ann := .l

theorem qbG.con {a : Int} {r : Unit} {w : World} (b : r = M.qbG a)  :
    Cl 89 #[(iv a)] w (fun c d => c = (.tuple #[]) ∧ Ext w d) := by
 have H := wp.qbG.math a
 have e := Ext.refl w
 refine begK mixed Tryz.f89 ann (vc a) ?_
 unfold vc
 unfold wp.qbG at H
 cases b.trans H.symm
 exact ⟨rfl, e⟩
def qaE.vc (b : Addr) (h : Nat) (i : Array Value) (j : Nat) (k : Array Value) (w : World) (K : VK) : Prop :=
  qdh (σ := Int × Unit) (fun c l m => Cl h (#[(iv c.1)] ++ i) l fun n a => (∃ o : Value, (∃ (d : Int), o = (iv d) ∧ ∃ p : Value, (∃ (f : Bool), p = (.bool f) ∧ n = (.tuple #[(iv d), (.bool f)]) ∧ qa1 (!f) (K (iv c.1) a) (qa1 (decide (d < 0)) (K (iv c.1) a) (ldI a ((b.add 4).add 0) fun q => qa1 (q == 100000) (K (iv c.1) a) (ldS a (b.add 0) fun r s t => ldS a (b.add 1) fun u v x => ldS a (b.add 2) fun y z A => ldI a (b.add 3) fun B => ldI a (b.add 4) fun C => Cl 81 #[(.agg (vB r s t u v x y z A B C)), (iv d)] a fun D g => (∃ (e : Int), D = (iv e) ∧ qa1 (decide (e < 0)) (K (iv c.1) g) (Cl j (#[(iv e)] ++ k) g fun E F => (E = (.tuple #[]) ∧ Cl 70 #[(.pointer (some b)), (iv e)] F fun G H => (∃ (I : Bool), G = (.bool I) ∧ m ((wrap .i64 (c.1 + 1)), ()) H))))))))))) (0, ()) w

def qaE.ann : Ann := (.seq .l (.seq .l (.one (.loop [(7, .int .i64)] (.seq (.one (.seq .l (.seq (.seq .l (.two (.seq .l .l) .l)) (.seq .l (.seq (.seq .l (.two (.seq .l .l) .l)) (.seq .l .l)))))) .l)))))

theorem qaE.start {p0 : Addr} {f1 : Nat} {cap1 : Array Value} {f2 : Nat} {cap2 : Array Value} {w : World} {K : Value → World → Prop} (h : qaE.vc p0 f1 cap1 f2 cap2 w K) : Cl 82 #[(.pointer (some p0)), (.func (.func f1) #[] cap1), (.func (.func f2) #[] cap2)] w K :=
  qdM mixed (fn := Tryz.f82) (by kernel_rfl) (by kernel_rfl) (an := qaE.ann) (args := [(.pointer (some p0)), (.func (.func f1) #[] cap1), (.func (.func f2) #[] cap2)]) (Eq.mpr (by kernel_rfl) h)

theorem qaE.con {d : D.Block} {A : Int} {s J Q y z : Nat} {B n k : OA} {o : Nat → Prop} {r : Int × D.Block} {w : World} (hp : M.qdv d A) (K : r = M.qaE d A) (b : Blk w s 33 (bC B J n Q k y d)) (R : Row el84 w B d.Code) (Z : d.Code.length ≤ J) (O3 : OwnW 52 el91 el3 w 0 o n Q d.Warps) (f : Own el3 w 0 k y d.Memory) (l : Blk w z 3 #[(iv A)]) (a8 : Dis (InW n o) (InB k)) (S : ¬ (fun e => InW n o e ∨ InB k e ∨ e = s) z) (C : d.Code ≠ [] → ∀ g, InB B g → ¬ (fun e => InW n o e ∨ InB k e ∨ e = s) g) :
    Cl 82 #[(.pointer (some (bx s))), (.func (.func 145) #[] #[(.pointer (some (bx z)))]), (.func (.func 89) #[] #[])] w (fun v_ p => ∃ (T : OA) (a0 : Nat) (a1 : Nat → Prop), v_ = (iv r.1) ∧ Blk p s 33 #[(sv B r.2.Code.length J), (sv T r.2.Warps.length a0), (sv k d.Memory.length y), (iv r.2.Waiting), (iv r.2.Phase)] ∧ r.2.Code = d.Code ∧ OwnW 52 el91 el3 p 0 a1 T a0 r.2.Warps ∧ MovW w (InW n o) (InW T a1) ∧ Own el3 p 0 k y r.2.Memory ∧ r.2.Memory.length = d.Memory.length ∧ Chg (fun e => InW n o e ∨ InB k e ∨ e = s) w p) := by
 have H := wp.qaE.math d A hp
 have i := Chg.refl (fun e => InW n o e ∨ InB k e ∨ e = s) w
 refine qaE.start ?_
 unfold vc
 unfold wp.qaE at H
 have a9 := MovW.refl w (InW n o)
 obtain ⟨aa, ⟨ab, ac⟩, a2⟩ := H
 refine ⟨fun m_ z_ p => ∃ (U : Int) (L : List D.Warp) (V W : Int) (N : List Int) (q : OA) (v : Nat) (t : Nat → Prop), z_ = (U, ()) ∧ aa m_ (U, L, V, W, N, ()) ∧ Chg (fun e => InW n o e ∨ InB k e ∨ e = s) w p ∧ Blk p s 33 #[(sv B d.Code.length J), (sv q L.length v), (sv k d.Memory.length y), (iv V), (iv W)] ∧ OwnW 52 el91 el3 p 0 t q v L ∧ MovW w (InW n o) (InW q t) ∧ Own el3 p 0 k y N ∧ d.Memory.length = N.length ∧ Blk p z 3 #[(iv A)] ∧ Dis (InW q t) (InB k) ∧ ¬ InW q t z, ⟨ab, 0, d.Warps, d.Waiting, d.Phase, d.Memory, n, Q, o, rfl, ac, i, b, O3, a9, f, (by first | rfl | assumption | omega | (simp; done) | (simp; omega) | (simp; assumption)), l, a8, (fun c => S (Or.inl c))⟩, ?_⟩
 rintro ad _ aB ⟨U, L, V, W, N, q, v, t, rfl, a3, i, b, m, x, f, u, l, a4, a5⟩
 have H := a2 ad _ a3
 clear a2 a3
 try dsimp only at H ⊢
 obtain ⟨O, ae, H⟩ := qaa H
 refine (qii (l1 := [_]) (l2 := [_]) (qaK.con ae l)).mono ?_
 rintro _ aC ⟨rfl, E⟩
 have b := b.ext E
 have f := f.ext E
 have l := l.ext E
 have m := m.ext E
 have i := i.then E
 refine ⟨(iv O.1), O.1, rfl, (.bool O.2), O.2, rfl, rfl, ?_⟩
 apply brc H<;>intro h H
 ·cases K.trans H.symm
  exact ⟨q, v, t, rfl, b, rfl, (m.mono (Nat.zero_le _)), x, f, (by first | (simp only [bC, wC, List.length_set]; done) | (simp only [bC, wC, List.length_set, ← u]; done) | (simp; done) | (simp; omega) | omega), i⟩
 apply brc H<;>intro h H
 ·cases K.trans H.symm
  exact ⟨q, v, t, rfl, b, rfl, (m.mono (Nat.zero_le _)), x, f, (by first | (simp only [bC, wC, List.length_set]; done) | (simp only [bC, wC, List.length_set, ← u]; done) | (simp; done) | (simp; omega) | omega), i⟩
 refine ⟨_, (b.a 4), ?_⟩
 apply brc H<;>intro h H
 ·cases K.trans H.symm
  exact ⟨q, v, t, rfl, b, rfl, (m.mono (Nat.zero_le _)), x, f, (by first | (simp only [bC, wC, List.length_set]; done) | (simp only [bC, wC, List.length_set, ← u]; done) | (simp; done) | (simp; omega) | omega), i⟩
 refine ⟨_, _, _, (b.a 0), _, _, _, (b.a 1), _, _, _, (b.a 2), _, (b.a 3), _, (b.a 4), ?_⟩
 obtain ⟨af, H⟩ := H
 obtain ⟨ag, ah, H⟩ := qaa H
 refine (qhl (by first | (simp only [bC, wC, List.length_set, ← u]; done) | (simp; done)) (qbe.con af ah (R.chgS i C) Z m.row m.le f.row f.le)).mono ?_
 rintro _ aD ⟨rfl, F⟩
 have b := b.ext F
 have f := f.ext F
 have l := l.ext F
 have m := m.ext F
 have i := i.then F
 refine ⟨ag, rfl, ?_⟩
 apply brc H<;>intro h H
 ·cases K.trans H.symm
  exact ⟨q, v, t, rfl, b, rfl, (m.mono (Nat.zero_le _)), x, f, (by first | (simp only [bC, wC, List.length_set]; done) | (simp only [bC, wC, List.length_set, ← u]; done) | (simp; done) | (simp; omega) | omega), i⟩
 obtain ⟨aE, ai, H⟩ := qaa H
 refine (qbG.con ai ).mono ?_
 rintro _ aF ⟨rfl, G⟩
 have b := b.ext G
 have f := f.ext G
 have l := l.ext G
 have m := m.ext G
 have i := i.then G
 refine ⟨rfl, ?_⟩
 obtain ⟨aj, H⟩ := H
 obtain ⟨ak, al, H⟩ := qaa H
 refine (qbj.con aj al (by first | exact b | (simp only [bC, wC, List.length_set, ← u]; exact b)) (R.chgS i C) Z (m.mono (Nat.zero_le _)) (f.mono (Nat.zero_le _)) a4 (fun P => (fun g c => (fun j => j.elim ((fun g c j => ((x _ j).elim (fun I => Or.inr (Or.inl I)) Or.inl).elim (fun am => Nat.not_le.2 (R.old P g c) am) (C P g c)) g c) (fun j => j.elim ((fun g c j => C P g c (Or.inr (Or.inl j))) g c) ((fun g c j => C P g c (Or.inr (Or.inr j))) g c)))))).mono ?_
 rintro _ aG ⟨an, ao, ap, rfl, X, aq, Q8, Y, Q4, a6, a7⟩
 simp only [bC, wC, aq] at X
 simp only [bC, wC, List.length_set, ← u] at X
 try dsimp only at a6
 have ar := x.trans Y i.size
 have au := Y.dis a4 f.oldA
 have av := fun c => (Y _ c).elim a5 (fun I => absurd l.lt (Nat.not_lt.2 I))
 have l := l.chgS a7 (fun j => j.elim a5 (fun j => j.elim ((show Apart k z from fun a_ aw ax => S (Or.inr (Or.inl ⟨a_, aw, ax⟩)))).inb ((fun c => S (Or.inr (Or.inr c))))))
 have i := i.chg a7 (fun g => (fun j => j.elim ((fun g c => ((x _ c).elim (fun I => Or.inr (Or.inl I)) Or.inl)) g) (fun j => j.elim ((fun g c => (Or.inr (Or.inr (Or.inl c)))) g) ((fun g c => Or.inr (Or.inr (Or.inr c))) g))))
 have b := X
 have f := Q4
 have O8 := Q8
 refine ⟨ak.1, rfl, ?_⟩
 obtain ⟨ay, az, aA⟩ := H
 exact ⟨ay, az, _, _, _, _, _, an, ao, ap, rfl, aA, i, (by first | exact b | (simp only [bC, wC, List.length_set, ← u, a6]; exact b)), O8, ar, f, (by first | rfl | assumption | omega | (simp; done) | (simp; omega) | (simp; assumption)), l, au, av⟩
def qaZ.vc (b : Addr) (c : Int) (d : Nat) (e : Array Value) (w : World) (K : VK) : Prop :=
  newK w (.cells #[(iv c)] 3) fun f g => Cl 82 #[(.pointer (some b)), (.func (.func 145) #[] #[(.pointer (some (bx f)))]), (.func (.func d) #[] e)] g fun h i => (∃ (a : Int), h = (iv a) ∧ K (iv a) i)

def qaZ.ann : Ann := (.seq .l (.seq .l .l))

theorem qaZ.start {p0 : Addr} {x1 : Int} {f2 : Nat} {cap2 : Array Value} {w : World} {K : Value → World → Prop} (h : qaZ.vc p0 x1 f2 cap2 w K) : Cl 88 #[(.pointer (some p0)), (iv x1), (.func (.func f2) #[] cap2)] w K :=
  qdM mixed (fn := Tryz.f88) (by kernel_rfl) (by kernel_rfl) (an := qaZ.ann) (args := [(.pointer (some p0)), (iv x1), (.func (.func f2) #[] cap2)]) (Eq.mpr (by kernel_rfl) h)

theorem qaZ.con {c : D.Block} {i u z m : Nat} {n e f : OA} {h : Nat → Prop} {o : Int} {r : Int × D.Block} {w : World} (G : M.qeF c o) (I : r = M.qaZ c o) (j : Blk w i 33 (bC n u e z f m c)) (J : Row el84 w n c.Code) (K : c.Code.length ≤ u) (p : OwnW 52 el91 el3 w 0 h e z c.Warps) (k : Own el3 w 0 f m c.Memory) (L : Dis (InW e h) (InB f)) (q : c.Code ≠ [] → ∀ g, InB n g → ¬ (fun d => InW e h d ∨ InB f d ∨ d = i) g) :
    Cl 88 #[(.pointer (some (bx i))), (iv o), (.func (.func 89) #[] #[])] w (fun N s => ∃ (v : OA) (A : Nat) (B : Nat → Prop), N = (iv r.1) ∧ Blk s i 33 #[(sv n r.2.Code.length u), (sv v r.2.Warps.length A), (sv f c.Memory.length m), (iv r.2.Waiting), (iv r.2.Phase)] ∧ r.2.Code = c.Code ∧ OwnW 52 el91 el3 s 0 B v A r.2.Warps ∧ MovW w (InW e h) (InW v B) ∧ Own el3 s 0 f m r.2.Memory ∧ r.2.Memory.length = c.Memory.length ∧ Chg (fun d => InW e h d ∨ InB f d ∨ d = i) w s) := by
 have H := wp.qaZ.math c o G
 refine qaZ.start ?_
 unfold vc
 unfold wp.qaZ at H
 have C := MovW.refl w (InW e h)
 refine qaL (fun a4 a5 x O t => ?_)
 have P := j.ne x
 have Q := p.qdp x
 have R := k.qaD x
 have j := j.ext t
 have p := p.ext t
 have k := k.ext t
 have l := (Chg.refl (fun d => InW e h d ∨ InB f d ∨ d = i) w).then t
 obtain ⟨S, H⟩ := H
 obtain ⟨T, U, H⟩ := qaa H
 refine (qaE.con S U j (J.chgS l q) K (p.mono (Nat.zero_le _)) (k.mono (Nat.zero_le _)) O L (fun a => a.elim Q (fun a => a.elim (R).inb ((P).symm))) (fun y => (fun g b => (fun a => a.elim ((fun g b a => q y g b (Or.inl a)) g b) (fun a => a.elim ((fun g b a => q y g b (Or.inr (Or.inl a))) g b) ((fun g b a => q y g b (Or.inr (Or.inr a))) g b)))))).mono ?_
 rintro _ a6 ⟨V, W, X, rfl, E, Y, Z, a0, Q4, F, a1⟩
 simp only [bC, wC, Y] at E
 try dsimp only at F
 have a2 := C.trans a0 l.size
 have l := l.chg a1 (fun g => (fun a => a.elim ((fun g b => ((C _ b).elim (fun a3 => Or.inr (Or.inl a3)) Or.inl)) g) (fun a => a.elim ((fun g b => (Or.inr (Or.inr (Or.inl b)))) g) ((fun g b => Or.inr (Or.inr (Or.inr b))) g))))
 have j := E
 have k := Q4
 have O6 := Z
 refine ⟨T.1, rfl, ?_⟩
 cases I.trans H.symm
 exact ⟨V, W, X, rfl, j, rfl, (O6.mono (Nat.zero_le _)), a2, k, (by first | (simp only [bC, wC, List.length_set]; done) | (simp only [bC, wC, List.length_set, F]; done) | (simp; done) | (simp; omega) | omega), l⟩
def qcg.vc (B : OA) (C D : Nat) (E : OA) (F G : Nat) (H : OA) (I J : Nat) (L M e : Int) (w : World) (K : VK) : Prop :=
  newK w (.cells (vB B C D E F G H I J L M) 33) fun f N => newK N (.cells zC 33) fun a g => ldB g (bx f) fun O P Q R S T U V W X Y => Cl 69 #[(.agg (vB O P Q R S T U V W X Y))] g fun Z a0 => (∃ (h : OA) (i j : Nat), True ∧ ∃ (k : OA) (l m : Nat), True ∧ ∃ (n : OA) (o p : Nat), True ∧ ∃ (q : Int), True ∧ ∃ (r : Int), True ∧ Z = (.agg (vB h i j k l m n o p q r)) ∧ newK a0 (.cells zC 33) fun b a1 => qa5 (bx b) [(sv h i j), (sv k l m), (sv n o p), (iv q), (iv r)] 0 a1 fun s => ldB s (bx f) fun a2 a3 a4 a5 a6 a7 a8 a9 aa ab ac => Cl 32 #[(.agg (vB a2 a3 a4 a5 a6 a7 a8 a9 aa ab ac))] s fun ad c => (∃ (t : Bool), ad = (.bool t) ∧ qa1 (!t) (ldB c (bx b) fun ae af ag ah ai aj ak al am an ao => qa5 (bx a) [(sv ae af ag), (sv ah ai aj), (sv ak al am), (iv an), (iv ao)] 0 c fun u => ldB u (bx a) fun ap aq ar au av aw ax ay az aA aB => K (.tuple #[(.agg (vB ap aq ar au av aw ax ay az aA aB)), (iv (-1))]) u) (Cl 87 #[(iv e)] c fun aC d => (∃ (v : Bool), aC = (.bool v) ∧ qa1 (!v) (ldB d (bx b) fun aD aE aF aG aH aI aJ aK aL aM aN => qa5 (bx a) [(sv aD aE aF), (sv aG aH aI), (sv aJ aK aL), (iv aM), (iv aN)] 0 d fun x => ldB x (bx a) fun aO aP aQ aR aS aT aU aV aW aX aY => K (.tuple #[(.agg (vB aO aP aQ aR aS aT aU aV aW aX aY)), (iv (-1))]) x) (Cl 88 #[(.pointer (some (bx b))), (iv e), (.func (.func 89) #[] #[])] d fun aZ y => (∃ (z : Int), aZ = (iv z) ∧ ldB y (bx b) fun b0 b1 b2 b3 b4 b5 b6 b7 b8 b9 ba => qa5 (bx a) [(sv b0 b1 b2), (sv b3 b4 b5), (sv b6 b7 b8), (iv b9), (iv ba)] 0 y fun A => ldB A (bx a) fun bb bc bd be bf bg bh bi bj bk bl => K (.tuple #[(.agg (vB bb bc bd be bf bg bh bi bj bk bl)), (iv z)]) A))))))

def qcg.ann : Ann := (.seq .l (.seq .l (.seq (.seq .l (.two (.seq .l .l) .l)) (.seq .l (.seq .l .l)))))

theorem qcg.con {k : D.Block} {P Q R : OA} {S T U : Nat} {C : Int} {r : D.Block × Int} {w : World} (hp : M.qf6 k C) (V : r = M.qcg k C) (a4 : Row el84 w P k.Code) (a5 : k.Code.length ≤ S) (a6 : RowW 52 el91 el3 w Q k.Warps) (a7 : k.Warps.length ≤ T) (a8 : Row el3 w R k.Memory) (a9 : k.Memory.length ≤ U) :
    Cl 39 #[(.agg (bC P S Q T R U k)), (iv C)] w (fun v_ G => ∃ (aa : OA) (ab : Nat) (W : OA) (ac : Nat) (ad : Nat → Prop) (X : OA) (ae : Nat), v_ = (.tuple #[(.agg (bC aa ab W ac X ae r.1)), (iv r.2)]) ∧ Own el84 G w.heap.size aa ab r.1.Code ∧ OwnW 52 el91 el3 G w.heap.size ad W ac r.1.Warps ∧ Own el3 G w.heap.size X ae r.1.Memory ∧ Dis (InW W ad) (InB X) ∧ Ext w G) := by
 have H := wp.qcg.math k C hp
 refine begK mixed Tryz.f39 ann (vc P k.Code.length S Q k.Warps.length T R k.Memory.length U k.Waiting k.Phase C) ?_
 unfold vc
 unfold wp.qcg at H
 refine qaL (fun aI aJ L4 i al => ?_)
 have b := qa6 (Ext.refl w) al
 refine qaL (fun aK aL E Y af => ?_)
 have i := i.ext af
 have c := Y
 have E := Nat.le_trans b.size E
 have b := qa6 b af
 refine ⟨_, _, _, (i.a 0), _, _, _, (i.a 1), _, _, _, (i.a 2), _, (i.a 3), _, (i.a 4), ?_⟩
 obtain ⟨am, H⟩ := H
 obtain ⟨m, an, H⟩ := qaa H
 refine (qca.con am an (a4.ext b) a5 (a6.ext b) a7 (a8.ext b) a9).mono ?_
 rintro _ aM ⟨p, q, v, x, ag, s, t, rfl, P6, P7, P8, I, Z⟩
 have a0 := P6.qap c.lt
 have a1 := P7.qg6 c (Nat.le_refl _)
 have J := P8.qap c.lt
 have i := i.ext Z
 have c := c.ext Z
 have d := P6.mono b.size
 have j := P7.mono b.size
 have f := P8.mono b.size
 have b := qa6 b Z
 refine ⟨p, m.Code.length, q, trivial, v, m.Warps.length, x, trivial, s, m.Memory.length, t, trivial, m.Waiting, trivial, m.Phase, trivial, rfl, ?_⟩
 refine qaL (fun aN aO n P9 y => ?_)
 have ao := i.ne n
 have ah := c.ne n
 have a2 := d.qaD n
 have ap := j.qdp n
 have aq := f.qaD n
 have d := d.ext y
 have f := f.ext y
 have e := P9
 have n := Nat.le_trans b.size n
 have b := qa6 b y
 refine qda e (o := 0) (cs' := (bC p q v x s t m)) rfl rfl (Nat.le_of_ble_eq_true rfl) rfl (fun aP e z => ?_)
 have i := (i.ext y).chg z ao
 have ar := d.chg z a2
 have au := f.chg z aq
 have b := echg b z n
 refine ⟨_, _, _, (i.a 0), _, _, _, (i.a 1), _, _, _, (i.a 2), _, (i.a 3), _, (i.a 4), ?_⟩
 obtain ⟨av, H⟩ := H
 obtain ⟨aw, ax, H⟩ := qaa H
 refine (qcW.con av ax (a4.ext b) a5 (a6.ext b) a7 (a8.ext b) a9).mono ?_
 rintro _ aQ ⟨rfl, A⟩
 have c := ((c.ext y).chg z ah).ext A
 have d := ar.ext A
 have j := ((j.ext y).chg z ap).ext A
 have f := au.ext A
 have e := e.ext A
 have b := qa6 b A
 refine ⟨aw, rfl, ?_⟩
 apply brc H<;>intro h H
 ·refine ⟨_, _, _, (e.a 0), _, _, _, (e.a 1), _, _, _, (e.a 2), _, (e.a 3), _, (e.a 4), ?_⟩
  refine qda c (o := 0) (cs' := (bC p q v x s t m)) rfl rfl (Nat.le_of_ble_eq_true rfl) rfl (fun aR c K => ?_)
  have d := d.chg K a0
  have j := j.chg K a1
  have f := f.chg K J
  have b := echg b K E
  refine ⟨_, _, _, (c.a 0), _, _, _, (c.a 1), _, _, _, (c.a 2), _, (c.a 3), _, (c.a 4), ?_⟩
  cases V.trans H.symm
  exact ⟨p, q, v, x, ag, s, t, rfl, d, j, f, I, b⟩
 obtain ⟨ay, az, H⟩ := qaa H
 refine (qcM.con az ).mono ?_
 rintro _ aS ⟨rfl, B⟩
 have c := c.ext B
 have d := d.ext B
 have j := j.ext B
 have f := f.ext B
 have e := e.ext B
 have b := qa6 b B
 refine ⟨ay, rfl, ?_⟩
 apply brc H<;>intro h H
 ·refine ⟨_, _, _, (e.a 0), _, _, _, (e.a 1), _, _, _, (e.a 2), _, (e.a 3), _, (e.a 4), ?_⟩
  refine qda c (o := 0) (cs' := (bC p q v x s t m)) rfl rfl (Nat.le_of_ble_eq_true rfl) rfl (fun aT c L => ?_)
  have d := d.chg L a0
  have j := j.chg L a1
  have f := f.chg L J
  have b := echg b L E
  refine ⟨_, _, _, (c.a 0), _, _, _, (c.a 1), _, _, _, (c.a 2), _, (c.a 3), _, (c.a 4), ?_⟩
  cases V.trans H.symm
  exact ⟨p, q, v, x, ag, s, t, rfl, d, j, f, I, b⟩
 obtain ⟨aA, H⟩ := H
 obtain ⟨N, aB, H⟩ := qaa H
 refine (qaZ.con aA aB e d.row d.le (j.mono (Nat.zero_le _)) (f.mono (Nat.zero_le _)) I (fun _ => (fun g u => (fun l => l.elim (((j.qfe d (by decide) (by decide) (by decide))).symm g u) (fun l => l.elim (((Own.qai d f (by decide))).inb g u) ((qbT a2) g u)))))).mono ?_
 rintro _ aU ⟨ai, aj, aC, rfl, Q9, aD, aE, ak, Q8, aF, a3⟩
 simp only [bC, wC, aD] at Q9
 try dsimp only at aF
 have aG := ak.dis I f.oldA
 have aH := ak.low j.lowW b.size
 have c := c.chgS a3 (fun l => l.elim a1 (fun l => l.elim (J).inb (ah)))
 have d := d.chgS a3 (fun g u => (fun l => l.elim (((j.qfe d (by decide) (by decide) (by decide))).symm g u) (fun l => l.elim (((Own.qai d f (by decide))).inb g u) ((qbT a2) g u))))
 have b := Chg.ext b a3 (fun g => (fun l => l.elim (j.lowW g) (fun l => l.elim (f.low g) ((qgv n) g))))
 have e := Q9
 have F := aE.lift aH
 refine ⟨N.1, rfl, _, _, _, (e.a 0), _, _, _, (e.a 1), _, _, _, (e.a 2), _, (e.a 3), _, (e.a 4), ?_⟩
 refine stB c 0 #[(sv p m.Code.length q), (sv ai N.2.Warps.length aj), (sv s m.Memory.length t), (iv N.2.Waiting), (iv N.2.Phase)] (fun aV Y O => ?_)
 have d := d.chg O a0
 have f := (Q8.up f).chg O J
 have F := F.chg O (F.qd0 c (by decide) (by decide) (by decide))
 have b := echg b O E
 have c := Y
 refine ⟨_, _, _, (c.a 0), _, _, _, (c.a 1), _, _, _, (c.a 2), _, (c.a 3), _, (c.a 4), ?_⟩
 cases V.trans H.symm
 exact ⟨p, q, ai, aj, aC, s, t, (by first | rfl | (simp; done) | (simp; omega) | (simp [*]; done)), (by first | exact d | (simp only [bC, wC, List.length_set]; exact d)), (by first | exact F | (simp only [bC, wC, List.length_set]; exact F)), (by first | exact f | (simp only [bC, wC, List.length_set]; exact f)), aG, b⟩
def qdo.vc (u : OA) (v x : Nat) (y : OA) (z A : Nat) (B : OA) (C D : Nat) (E F G H : Int) (w : World) (K : VK) : Prop :=
  newK w (.cells (vB u v x y z A B C D E F) 33) fun a I => newK I (.cells zC 33) fun c J => qdh (σ := Int × Unit) (fun e d L => qa1 (decide (e.1 < H)) (ldB d (bx a) fun M N O P Q R S T U V W => Cl 163 #[(.agg (vB M N O P Q R S T U V W)), (iv (wrap .i64 (e.1 * G)))] d fun X b => (∃ (f : Int), X = (iv f) ∧ qa1 (decide (f < 0)) (ldB b (bx a) fun Y Z a0 a1 a2 a3 a4 a5 a6 a7 a8 => qa5 (bx c) [(sv Y Z a0), (sv a1 a2 a3), (sv a4 a5 a6), (iv a7), (iv a8)] 0 b fun g => ldB g (bx c) fun a9 aa ab ac ad ae af ag ah ai aj => K (.agg (vB a9 aa ab ac ad ae af ag ah ai aj)) g) (ldI b (((bx a).add 4).add 0) fun ak => qa1 (ak == 100000) (ldB b (bx a) fun al am an ao ap aq ar au av aw ax => qa5 (bx c) [(sv al am an), (sv ao ap aq), (sv ar au av), (iv aw), (iv ax)] 0 b fun h => ldB h (bx c) fun ay az aA aB aC aD aE aF aG aH aI => K (.agg (vB ay az aA aB aC aD aE aF aG aH aI)) h) (ldB b (bx a) fun aJ aK aL aM aN aO aP aQ aR aS aT => Cl 164 #[(.agg (vB aJ aK aL aM aN aO aP aQ aR aS aT)), (iv f)] b fun aU aV => (∃ (i : OA) (j k : Nat), True ∧ ∃ (l : OA) (m n : Nat), True ∧ ∃ (o : OA) (p q : Nat), True ∧ ∃ (r : Int), True ∧ ∃ (s : Int), True ∧ aU = (.agg (vB i j k l m n o p q r s)) ∧ qa5 (bx a) [(sv i j k), (sv l m n), (sv o p q), (iv r), (iv s)] 0 aV fun aW => L ((wrap .i64 (e.1 + 1)), ()) aW))))) (ldB d (bx a) fun aX aY aZ b0 b1 b2 b3 b4 b5 b6 b7 => qa5 (bx c) [(sv aX aY aZ), (sv b0 b1 b2), (sv b3 b4 b5), (iv b6), (iv b7)] 0 d fun t => ldB t (bx c) fun b8 b9 ba bb bc bd be bf bg bh bi => K (.agg (vB b8 b9 ba bb bc bd be bf bg bh bi)) t)) (0, ()) J

def qdo.ann : Ann := (.seq .l (.seq (.seq .l (.one (.loop [(7, .int .i64)] (.seq (.seq .l (.two .l .l)) (.seq (.one (.seq .l (.seq (.seq .l (.two .l .l)) .l))) .l))))) (.seq .l .l)))

theorem qdo.con {i r : D.Block} {L E F : OA} {N k O P : Nat} {U : Nat → Prop} {G I : Int} {w : World} (hp : M.qgQ i G I) (V : r = M.qdo i G I) (W : Own el84 w k L N i.Code) (X : k ≤ w.heap.size) (Y : OwnW 52 el91 el3 w k U E O i.Warps) (Z : Own el3 w k F P i.Memory) (ao : Dis (InW E U) (InB F)) :
    Cl 118 #[(.agg (bC L N E O F P i)), (iv G), (iv I)] w (fun v_ j => ∃ (ae : OA) (af : Nat) (a0 : OA) (ag : Nat) (ah : Nat → Prop) (a1 : OA) (ai : Nat), v_ = (.agg (bC ae af a0 ag a1 ai r)) ∧ Own el84 j k ae af r.Code ∧ OwnW 52 el91 el3 j k ah a0 ag r.Warps ∧ Own el3 j k a1 ai r.Memory ∧ Dis (InW a0 ah) (InB a1) ∧ Ext w j) := by
 have H := wp.qdo.math i G I hp
 have d := Ext.refl w
 refine begK mixed Tryz.f118 ann (vc L i.Code.length N E i.Warps.length O F i.Memory.length P i.Waiting i.Phase G I) ?_
 unfold vc
 unfold wp.qdo at H
 refine qaL (fun ap aL L4 P4 Q => ?_)
 have b := P4
 have L4 := Nat.le_trans d.size L4
 have d := qa6 d Q
 refine qaL (fun aq aM x s J => ?_)
 have ar := b.ne x
 have W := (W.ext Q).ext J
 have Y := (Y.ext Q).ext J
 have Z := (Z.ext Q).ext J
 have b := b.ext J
 have c := s
 have x := Nat.le_trans d.size x
 have d := qa6 d J
 obtain ⟨au, ⟨av, aw⟩, aj⟩ := H
 refine ⟨fun m_ z_ j => ∃ (a2 : Int) (t : List D.Ins) (u : List D.Warp) (v : List Int) (y z : Int) (n : OA) (o : Nat) (l : OA) (p : Nat) (A : Nat → Prop) (m : OA) (q : Nat), z_ = (a2, ()) ∧ au m_ (a2, t, u, v, y, z, ()) ∧ Ext w j ∧ Blk j ap 33 #[(sv n t.length o), (sv l u.length p), (sv m v.length q), (iv y), (iv z)] ∧ Own el84 j k n o t ∧ OwnW 52 el91 el3 j k A l p u ∧ Own el3 j k m q v ∧ Blk j aq 33 zC ∧ Dis (InW l A) (InB m), ⟨av, 0, i.Code, i.Warps, i.Memory, i.Waiting, i.Phase, L, N, E, O, U, F, P, rfl, aw, d, b, W, Y, Z, c, ao⟩, ?_⟩
 rintro ax _ aN ⟨a2, t, u, v, y, z, n, o, l, p, A, m, q, rfl, ak, d, b, e, f, g, c, a3⟩
 have H := aj ax _ ak
 clear aj ak
 try dsimp only at H ⊢
 apply brc H<;>intro h H
 ·refine ⟨_, _, _, (b.a 0), _, _, _, (b.a 1), _, _, _, (b.a 2), _, (b.a 3), _, (b.a 4), ?_⟩
  obtain ⟨ay, H⟩ := H
  obtain ⟨az, aA, H⟩ := qaa H
  refine (qdC.con ay aA e.row e.le f.row f.le g.row g.le).mono ?_
  rintro _ aO ⟨rfl, B⟩
  have b := b.ext B
  have c := c.ext B
  have e := e.ext B
  have f := f.ext B
  have g := g.ext B
  have d := qa6 d B
  refine ⟨az, rfl, ?_⟩
  apply brc H<;>intro h H
  ·refine ⟨_, _, _, (b.a 0), _, _, _, (b.a 1), _, _, _, (b.a 2), _, (b.a 3), _, (b.a 4), ?_⟩
   refine stB c 0 #[(sv n t.length o), (sv l u.length p), (sv m v.length q), (iv y), (iv z)] (fun aP s R => ?_)
   have e := e.chg R (e.qa3 c (by decide))
   have f := f.chg R (f.qd0 c (by decide) (by decide) (by decide))
   have g := g.chg R (g.qa3 c (by decide))
   have d := echg d R x
   have c := s
   refine ⟨_, _, _, (c.a 0), _, _, _, (c.a 1), _, _, _, (c.a 2), _, (c.a 3), _, (c.a 4), ?_⟩
   cases V.trans H.symm
   exact ⟨n, o, l, p, A, m, q, rfl, e, f, g, a3, d⟩
  refine ⟨_, (b.a 4), ?_⟩
  apply brc H<;>intro h H
  ·refine ⟨_, _, _, (b.a 0), _, _, _, (b.a 1), _, _, _, (b.a 2), _, (b.a 3), _, (b.a 4), ?_⟩
   refine stB c 0 #[(sv n t.length o), (sv l u.length p), (sv m v.length q), (iv y), (iv z)] (fun aQ s S => ?_)
   have e := e.chg S (e.qa3 c (by decide))
   have f := f.chg S (f.qd0 c (by decide) (by decide) (by decide))
   have g := g.chg S (g.qa3 c (by decide))
   have d := echg d S x
   have c := s
   refine ⟨_, _, _, (c.a 0), _, _, _, (c.a 1), _, _, _, (c.a 2), _, (c.a 3), _, (c.a 4), ?_⟩
   cases V.trans H.symm
   exact ⟨n, o, l, p, A, m, q, rfl, e, f, g, a3, d⟩
  refine ⟨_, _, _, (b.a 0), _, _, _, (b.a 1), _, _, _, (b.a 2), _, (b.a 3), _, (b.a 4), ?_⟩
  obtain ⟨aB, H⟩ := H
  obtain ⟨C, aC, H⟩ := qaa H
  refine (qdA.con aB aC e.row e.le f.row f.le g.row g.le).mono ?_
  rintro _ aR ⟨a4, a5, a6, a7, aD, a8, a9, rfl, al, am, an, aE, aa⟩
  have aF := al.qap b.lt
  have aG := am.qg6 b (Nat.le_refl _)
  have aH := an.qap b.lt
  have b := b.ext aa
  have ab := al.mono d.size
  have ac := am.mono d.size
  have ad := an.mono d.size
  have d := qa6 d aa
  refine ⟨a4, C.Code.length, a5, trivial, a6, C.Warps.length, a7, trivial, a8, C.Memory.length, a9, trivial, C.Waiting, trivial, C.Phase, trivial, rfl, ?_⟩
  refine stB b 0 (bC a4 a5 a6 a7 a8 a9 C) (fun aS P4 K => ?_)
  have c := (c.ext aa).chg K (ar).symm
  have ab := ab.chg K aF
  have ac := ac.chg K aG
  have ad := ad.chg K aH
  have d := echg d K L4
  have b := P4
  obtain ⟨aI, aJ, aK⟩ := H
  exact ⟨aI, aJ, _, _, _, _, _, _, a4, a5, a6, a7, aD, a8, a9, rfl, aK, d, b, (ab.mono X), (ac.mono X), (ad.mono X), c, aE⟩
 refine ⟨_, _, _, (b.a 0), _, _, _, (b.a 1), _, _, _, (b.a 2), _, (b.a 3), _, (b.a 4), ?_⟩
 refine stB c 0 #[(sv n t.length o), (sv l u.length p), (sv m v.length q), (iv y), (iv z)] (fun aT s T => ?_)
 have e := e.chg T (e.qa3 c (by decide))
 have f := f.chg T (f.qd0 c (by decide) (by decide) (by decide))
 have g := g.chg T (g.qa3 c (by decide))
 have d := echg d T x
 have c := s
 refine ⟨_, _, _, (c.a 0), _, _, _, (c.a 1), _, _, _, (c.a 2), _, (c.a 3), _, (c.a 4), ?_⟩
 cases V.trans H.symm
 exact ⟨n, o, l, p, A, m, q, rfl, e, f, g, a3, d⟩
def qcJ.vc (d : Addr) (w : World) (K : VK) : Prop :=
  newK w (.cells zC 33) fun p U => Cl 85 #[(.pointer (some d))] U fun V W => (∃ (q : OA) (r s : Nat), V = (sv q r s) ∧ Cl 67 #[(.pointer (some d)), (iv 3)] W fun X Y => (∃ (t : Int), X = (iv t) ∧ Cl 115 #[(sv q r s), (iv (wrap .i64 (1 + t)))] Y fun Z a0 => (∃ a1 : Value, (∃ (e : OA) (f g : Nat), True ∧ ∃ (h : OA) (i j : Nat), True ∧ ∃ (k : OA) (l m : Nat), True ∧ ∃ (n : Int), True ∧ ∃ (o : Int), True ∧ a1 = (.agg (vB e f g h i j k l m n o)) ∧ ∃ a2 : Value, (∃ (u : Bool), a2 = (.bool u) ∧ Z = (.tuple #[(.agg (vB e f g h i j k l m n o)), (.bool u)]) ∧ newK a0 (.cells zC 33) fun c a3 => qa5 (bx c) [(sv e f g), (sv h i j), (sv k l m), (iv n), (iv o)] 0 a3 fun a4 => qfo (σ := Unit) (fun v => Cl 116 #[(.pointer (some d)), (iv 3)] a4 fun a5 x => (∃ (y : Bool), a5 = (.bool y) ∧ qa1 y (Cl 117 #[(.pointer (some d)), (iv 32)] x fun a6 a7 => (∃ (z : OA) (A B : Nat), a6 = (sv z A B) ∧ qa5 ((bx c).add 2) [(sv z A B)] 0 a7 fun a8 => v () a8)) (v () x))) fun aA a => (∃ b : Nat → Prop, ldSM b a (bx c) 0 fun a9 aa ab => ldSM b a (bx c) 1 fun ac ad ae => ldSM b a (bx c) 2 fun af ag ah => ldIM b a (bx c) 3 fun ai => ldIM b a (bx c) 4 fun aj => Cl 67 #[(.pointer (some d)), (iv 4)] a.drew fun ak C => (∃ (D : Int), ak = (iv D) ∧ qab b a C ∧ Cl 67 #[(.pointer (some d)), (iv 40)] C fun al E => (∃ (F : Int), al = (iv F) ∧ qab b a E ∧ Cl 118 #[(.agg (vB a9 aa ab ac ad ae af ag ah ai aj)), (iv D), (iv F)] E fun am G => (∃ (H : OA) (I J : Nat), True ∧ ∃ (L : OA) (M N : Nat), True ∧ ∃ (O : OA) (P Q : Nat), True ∧ ∃ (R : Int), True ∧ ∃ (S : Int), True ∧ am = (.agg (vB H I J L M N O P Q R S)) ∧ qab b a G ∧ qa5 (bx p) [(sv H I J), (sv L M N), (sv O P Q), (iv R), (iv S)] 0 G fun T => ldB T (bx p) fun an ao ap aq ar au av aw ax ay az => K (.agg (vB an ao ap aq ar au av aw ax ay az)) T)))))))))

def qcJ.ann : Ann := (.seq .l (.seq .l (.cut [] (.seq .l (.two .l .l)) (.seq .l .l))))

theorem qcJ.con {s : D.Cur} {t X : Nat} {U : OA} {r : D.Block × D.Cur} {w : World} (hp : M.qg7 s) (hr : r = M.qcJ s) (d : Blk w t 129 #[(sv U s.b.length X), (iv s.i), (iv s.h)]) (F : Row el5 w U s.b) (G : s.b.length ≤ X) (q : s.b ≠ [] → ∀ g, InB U g → ¬ (fun u => u = t) g) :
    Cl 58 #[(.pointer (some (bx t)))] w (fun v_ p => ∃ (av : OA) (aw : Nat) (aa : OA) (ax : Nat) (ay : Nat → Prop) (ab : OA) (az : Nat), v_ = (.agg (bC av aw aa ax ab az r.1)) ∧ Own el84 p w.heap.size av aw r.1.Code ∧ OwnW 52 el91 el3 p w.heap.size ay aa ax r.1.Warps ∧ Own el3 p w.heap.size ab az r.1.Memory ∧ Dis (InW aa ay) (InB ab) ∧ Blk p t 129 #[(sv U r.2.b.length X), (iv r.2.i), (iv r.2.h)] ∧ r.2.b = s.b ∧ Chg (fun u => u = t) w p) := by
 have H := wp.qcJ.math s hp
 have c := Chg.refl (fun u => u = t) w
 refine begK mixed Tryz.f58 ann (vc (bx t)) ?_
 unfold vc
 unfold wp.qcJ at H
 refine qaL (fun aH bp Y P3 aA => ?_)
 have C := d.ne Y
 have d := d.ext aA
 have Y := Nat.le_trans c.size Y
 have c := c.then aA
 obtain ⟨aI, H⟩ := H
 obtain ⟨aJ, aK, H⟩ := qaa H
 refine (qa8.con aI aK d (F.chgS c q) G (fun v => (fun g e x => q v g e x))).mono ?_
 rintro _ bq ⟨aL, aM, rfl, P4, j, aN, aB⟩
 simp only [bC, wC, aN] at j
 have aO := P4.qap d.lt
 have Z := P4.mono c.size
 have c := c.chg aB (fun g e => Or.inr e)
 have d := j
 refine ⟨aL, aJ.1.length, aM, rfl, ?_⟩
 obtain ⟨aP, H⟩ := H
 obtain ⟨aQ, aR, H⟩ := qaa H
 refine (qa0.con aP aR d (F.chgS c q) G (fun v => (fun g e x => q v g e x))).mono ?_
 rintro _ br ⟨rfl, j, aS, ac⟩
 simp only [bC, wC, aS] at j
 have Z := Z.chgS ac (qbT aO)
 have c := c.chg ac (fun g e => Or.inr e)
 have d := j
 refine ⟨aQ.1, rfl, ?_⟩
 obtain ⟨aT, H⟩ := H
 obtain ⟨k, aU, H⟩ := qaa H
 refine (qbw.con aT aU Z.row Z.le).mono ?_
 rintro _ bs ⟨I, J, E, K, aC, a0, a1, rfl, P5, P6, P7, aV, ad⟩
 have a2 := P5.qap d.lt
 have a3 := P6.qg6 d (Nat.le_refl _)
 have aW := P7.qap d.lt
 have d := d.ext ad
 have f := ((P3.chgS aB ((C).symm)).chgS ac ((C).symm)).ext ad
 have n := P5.mono c.size
 have m := P6.mono c.size
 have L := P7.mono c.size
 have c := c.then ad
 refine ⟨(.agg (bC I J E K a0 a1 k.1)), I, k.1.Code.length, J, trivial, E, k.1.Warps.length, K, trivial, a0, k.1.Memory.length, a1, trivial, k.1.Waiting, trivial, k.1.Phase, trivial, rfl, (.bool k.2), k.2, rfl, rfl, ?_⟩
 refine qaL (fun aX bt y P8 N => ?_)
 have z := d.ne y
 have aD := f.ne y
 have aE := n.qaD y
 have aF := m.qdp y
 have aY := L.qaD y
 have d := d.ext N
 have l := P8
 have y := Nat.le_trans c.size y
 refine stB l 0 (bC I J E K a0 a1 k.1) (fun bu P8 O => ?_)
 have aZ := d.chg O z
 have f := (f.ext N).chg O aD
 have n := (n.ext N).chg O aE
 have m := (m.ext N).chg O aF
 have L := (L.ext N).chg O aY
 have d := aZ
 have c := (c.then N).chgb O (Or.inl y)
 have l := P8
 obtain ⟨b0, b1, H⟩ := qd9 H
 refine ⟨fun z_ p => ∃ (ae af : Int) (a4 : List Int) (ag ah : Int) (a5 : OA) (ai : Nat), z_ = (()) ∧ b0 (ae, af, a4, ag, ah, ()) ∧ Chg (fun u => u = t) w p ∧ Blk p t 129 #[(sv U s.b.length X), (iv ae), (iv af)] ∧ Blk p aX 33 #[(sv I k.1.Code.length J), (sv E k.1.Warps.length K), (sv a5 a4.length ai), (iv ag), (iv ah)] ∧ Own el3 p w.heap.size a5 ai a4 ∧ Blk p aH 33 zC ∧ Own el84 p w.heap.size I J k.1.Code ∧ OwnW 52 el91 el3 p w.heap.size aC E K k.1.Warps ∧ Dis (InW E aC) (InB a5), ?_, ?_⟩
 ·obtain ⟨b2, H⟩ := H
  obtain ⟨b3, b4, H⟩ := qaa H
  refine (qd1.con b2 b4 d (F.chgS c q) G (fun v => (fun g e x => q v g e x))).mono ?_
  rintro _ bv ⟨rfl, j, b5, P⟩
  simp only [bC, wC, b5] at j
  have f := f.chgS P ((C).symm)
  have n := n.chgS P (qbT a2)
  have m := m.kept P (qj4 a3)
  have L := L.chgS P (qbT aW)
  have l := l.chgS P ((z).symm)
  have c := c.chg P (fun g e => Or.inr e)
  have d := j
  refine ⟨b3.1, rfl, ?_⟩
  apply brc H<;>intro h H
  ·obtain ⟨b6, H⟩ := H
   obtain ⟨aG, b7, H⟩ := qaa H
   refine (qbu.con b6 b7 d (F.chgS c q) G (fun v => (fun g e x => q v g e x))).mono ?_
   rintro _ bw ⟨aj, ak, rfl, al, j, b8, V⟩
   simp only [bC, wC, b8] at j
   have b9 := m.qf8 al (Nat.le_refl _)
   have ba := al.qap l.lt
   have l := l.chgS V ((z).symm)
   have am := al.mono c.size
   refine ⟨aj, aG.1.length, ak, rfl, ?_⟩
   refine qda l (o := 2) (cs' := #[(sv I k.1.Code.length J), (sv E k.1.Warps.length K), (sv aj aG.1.length ak), (iv k.1.Waiting), (iv k.1.Phase)]) rfl rfl (Nat.le_of_ble_eq_true rfl) rfl (fun bz l Q => ?_)
   have d := j.chg Q z
   have f := (f.chgS V ((C).symm)).chg Q aD
   have n := (n.chgS V (qbT a2)).chg Q aE
   have m := (m.kept V (qj4 a3)).chg Q aF
   have am := am.chg Q ba
   have c := (c.chg V (fun g e => Or.inr e)).chgb Q (Or.inl y)
   exact ⟨_, _, _, _, _, aj, ak, rfl, H, c, d, l, am, f, n, m, b9⟩
  exact ⟨_, _, _, _, _, a0, a1, rfl, H, c, d, l, L, f, n, m, aV⟩
 rintro _ bb ⟨ae, af, a4, ag, ah, a5, ai, rfl, H, c, d, l, A, f, n, m, bc⟩
 have H := b1 _ H
 try dsimp only at H ⊢
 refine ⟨((fun u => u = t)), _, _, _, ⟨(qfb ((z).symm) (by first | rfl | (simp only [qcT]))), (l.a 0)⟩, _, _, _, ⟨(qfb ((z).symm) (by first | rfl | (simp only [qcT]))), (l.a 1)⟩, _, _, _, ⟨(qfb ((z).symm) (by first | rfl | (simp only [qcT]))), (l.a 2)⟩, _, ⟨(qfb ((z).symm) (by first | rfl | (simp only [qcT]))), (l.a 3)⟩, _, ⟨(qfb ((z).symm) (by first | rfl | (simp only [qcT]))), (l.a 4)⟩, ?_⟩
 have d := d.ext (Ext.drew _)
 have f := f.ext (Ext.drew _)
 have n := n.ext (Ext.drew _)
 have m := m.ext (Ext.drew _)
 have A := A.ext (Ext.drew _)
 have c := c.then (Ext.drew _)
 have B := (Chg.refl ((fun u => u = t)) bb).then (Ext.drew _)
 obtain ⟨bd, H⟩ := H
 obtain ⟨be, bf, H⟩ := qaa H
 refine (qa0.con bd bf d (F.chgS c q) G (fun v => (fun g e x => q v g e x))).mono ?_
 rintro _ bA ⟨rfl, j, bg, R⟩
 simp only [bC, wC, bg] at j
 have A := A.chgS R (qbT (A.qa3 d (by decide)))
 have B := B.chg R (fun g => (fun e => (Or.inr e)))
 have c := c.chg R (fun g e => Or.inr e)
 have d := j
 refine ⟨be.1, rfl, qaw B, ?_⟩
 obtain ⟨bh, H⟩ := H
 obtain ⟨bi, bj, H⟩ := qaa H
 refine (qa0.con bh bj d (F.chgS c q) G (fun v => (fun g e x => q v g e x))).mono ?_
 rintro _ bB ⟨rfl, j, bk, S⟩
 simp only [bC, wC, bk] at j
 have n := (n.chgS R (qbT a2)).chgS S (qbT a2)
 have m := (m.kept R (qj4 a3)).kept S (qj4 a3)
 have A := A.chgS S (qbT (A.qa3 d (by decide)))
 have B := B.chg S (fun g => (fun e => (Or.inr e)))
 have c := c.chg S (fun g e => Or.inr e)
 refine ⟨bi.1, rfl, qaw B, ?_⟩
 obtain ⟨bl, H⟩ := H
 obtain ⟨T, bm, H⟩ := qaa H
 refine (qdo.con bl bm n c.size m A bc).mono ?_
 rintro _ bD ⟨an, ao, ap, aq, bn, ar, au, rfl, a6, a7, a8, bo, a9⟩
 have f := ((f.chgS R ((C).symm)).chgS S ((C).symm)).ext a9
 have B := B.then a9
 refine ⟨an, T.Code.length, ao, trivial, ap, T.Warps.length, aq, trivial, ar, T.Memory.length, au, trivial, T.Waiting, trivial, T.Phase, trivial, rfl, qaw B, ?_⟩
 refine stB f 0 (bC an ao ap aq ar au T) (fun bE P3 W => ?_)
 have d := (j.ext a9).chg W C
 have a6 := a6.chg W (a6.qa3 f (by decide))
 have a7 := a7.chg W (a7.qd0 f (by decide) (by decide) (by decide))
 have a8 := a8.chg W (a8.qa3 f (by decide))
 have c := (c.then a9).chgb W (Or.inl Y)
 have f := P3
 refine ⟨_, _, _, (f.a 0), _, _, _, (f.a 1), _, _, _, (f.a 2), _, (f.a 3), _, (f.a 4), ?_⟩
 cases hr.trans H.symm
 exact ⟨an, ao, ap, aq, bn, ar, au, rfl, a6, a7, a8, bo, d, rfl, c⟩
def qcC.vc (o : OA) (p q : Nat) (w : World) (K : VK) : Prop :=
  newK w (.cells zC 33) fun a r => Cl 59 #[(sv o p q)] r fun s t => (∃ (b : Addr), s = (.pointer (some b)) ∧ Cl 58 #[(.pointer (some b))] t fun u v => (∃ (c : OA) (d e : Nat), True ∧ ∃ (f : OA) (g h : Nat), True ∧ ∃ (i : OA) (j k : Nat), True ∧ ∃ (l : Int), True ∧ ∃ (m : Int), True ∧ u = (.agg (vB c d e f g h i j k l m)) ∧ qa5 (bx a) [(sv c d e), (sv f g h), (sv i j k), (iv l), (iv m)] 0 v fun n => ldB n (bx a) fun x y z A B C D E F G H => K (.agg (vB x y z A B C D E F G H)) n))

def qcC.ann : Ann := (.seq .l (.seq .l .l))

theorem qcC.con {d : List Int} {j : OA} {k : Nat} {r : D.Block} {w : World} (Q : M.qfI d) (R : r = M.qcC d) (l : Row el5 w j d) (B : d.length ≤ k) :
    Cl 19 #[(sv j d.length k)] w (fun S h => ∃ (C : OA) (E : Nat) (m : OA) (F : Nat) (G : Nat → Prop) (n : OA) (I : Nat), S = (.agg (bC C E m F n I r)) ∧ Own el84 h w.heap.size C E r.Code ∧ OwnW 52 el91 el3 h w.heap.size G m F r.Warps ∧ Own el3 h w.heap.size n I r.Memory ∧ Dis (InW m G) (InB n) ∧ Ext w h) := by
 have H := wp.qcC.math d Q
 have b := Ext.refl w
 refine begK mixed Tryz.f19 ann (vc j d.length k) ?_
 unfold vc
 unfold wp.qcC at H
 refine qaL (fun aa ab p T U => ?_)
 have c := T
 have p := Nat.le_trans b.size p
 have b := qa6 b U
 obtain ⟨V, H⟩ := H
 obtain ⟨ac, W, H⟩ := qaa H
 refine (qb9.con V W (l.ext b) B).mono ?_
 rintro _ ad ⟨X, rfl, J, Y, f, K⟩
 simp only [bC, wC, Y] at J
 have Z := c.ne f
 have f := Nat.le_trans b.size f
 have c := c.ext K
 have b := qa6 b K
 refine ⟨(bx X), rfl, ?_⟩
 obtain ⟨a0, H⟩ := H
 obtain ⟨e, a1, H⟩ := qaa H
 refine (qcJ.con a0 a1 J (l.ext b) B (fun a2 => (fun g h_ a3 => Nat.not_le.2 (l.old a2 g h_) (qgv f _ a3)))).mono ?_
 rintro _ ae ⟨q, s, t, u, a4, v, x, rfl, L, N, O, a5, Q3, a6, P⟩
 simp only [bC, wC, a6] at Q3
 have a7 := L.qap c.lt
 have a8 := N.qg6 c (Nat.le_refl _)
 have a9 := O.qap c.lt
 have c := c.chgS P (Z)
 have y := L.mono b.size
 have z := N.mono b.size
 have A := O.mono b.size
 have b := Chg.ext b P (qgv f)
 refine ⟨q, e.1.Code.length, s, trivial, t, e.1.Warps.length, u, trivial, v, e.1.Memory.length, x, trivial, e.1.Waiting, trivial, e.1.Phase, trivial, rfl, ?_⟩
 refine qda c (o := 0) (cs' := (bC q s t u v x e.1)) rfl rfl (Nat.le_of_ble_eq_true rfl) rfl (fun af c i => ?_)
 have y := y.chg i a7
 have z := z.chg i a8
 have A := A.chg i a9
 have b := echg b i p
 refine ⟨_, _, _, (c.a 0), _, _, _, (c.a 1), _, _, _, (c.a 2), _, (c.a 3), _, (c.a 4), ?_⟩
 cases R.trans H.symm
 exact ⟨q, s, t, u, a4, v, x, rfl, y, z, A, a5, b⟩
def qam.vc (a : OA) (h i : Nat) (w : World) (K : VK) : Prop :=
  qa1 (Option.isNone a) (K (sv none 0 0) w) (Run Tryz.prog (Instr.buildSlice 28 0 #[]) w fun j k => ∃ (b : OA) (c d : Nat), j = .slice b c d ∧ Run Tryz.prog (Builtin.append_ #[28, 28] 28 #[(sv b c d), (sv a h i)]) k fun l m => ∃ (e : OA) (f g : Nat), l = .slice e f g ∧ K (sv e f g) m)

def qam.ann : Ann := (.seq .l (.seq (.seq .l (.two (.seq .l .l) .l)) (.seq .l .l)))

theorem qam.con {b r : List D.Access} {c : OA} {e : Nat} {w : World} (n : M.qcR b) (g : r = M.qam b) (i : Row el63 w c b) (z : b.length ≤ e) :
    Cl 96 #[(sv c b.length e)] w (fun o j => ∃ (k : OA) (l : Nat), o = (sv k r.length l) ∧ Own el63 j w.heap.size k l r ∧ Ext w j) := by
 have H := wp.qam.math b n
 have a := Ext.refl w
 refine begK mixed Tryz.f96 ann (vc c b.length e) ?_
 unfold vc
 unfold wp.qam at H
 obtain ⟨p, m⟩ : ∃ q, q = Option.isNone c := ⟨_, rfl⟩
 have H := H p (fun s => Row.isNone (i.ext a) (m.symm.trans s))
 rw [← m]
 apply brc H<;>intro h H
 ·cases g.trans H.symm
  exact ⟨none, 0, rfl, Own.nil, a⟩
 refine qaz el63 ([] : List D.Access) (fun _ => by kernel_rfl) rfl (fun A B f t => ?_)
 have d := f.mono a.size
 have a := qa6 a t
 obtain ⟨u, H⟩ := H
 refine appO qng d (i.ext a) a.size u (fun v x C f y => ?_)
 have a := eapp a y d
 have d := f
 cases g.trans H.symm
 exact ⟨v, x, rfl, d, a⟩
def qbH.vc (o : OA) (m D : Nat) (E : OA) (p c1 : Nat) (w : World) (K : VK) : Prop :=
  newK w (.map #[] 0) fun n F => qdh (σ := Int × Unit) (fun c d G => qa1 (decide (c.1 < ((m : Nat) : Int))) ((idx c.1 m o fun k => ldI d ((k.add ((c.1.toNat) * 4)).add 0) fun H => ldI d ((k.add ((c.1.toNat) * 4)).add 1) fun I => ldI d ((k.add ((c.1.toNat) * 4)).add 2) fun J => ldI d ((k.add ((c.1.toNat) * 4)).add 3) fun L => newK d (.cells #[(iv 0), (iv 0), (iv 0), (iv 0)] 63) fun h M => qa5 (bx h) [(iv H), (iv I), (iv J), (iv L)] 0 M fun i => ldI i ((bx h).add 0) fun N => ldI i ((bx h).add 1) fun O => ldI i ((bx h).add 2) fun P => ldI i ((bx h).add 3) fun Q => (∃ q, (Instr.mapUpdate 106 (.map (some n)) (.agg #[(iv N), (iv O), (iv P), (iv Q)]) (.bool true)).run Tryz.prog i = .ok () q ∧ G ((wrap .i64 (c.1 + 1)), ()) q))) (Cl 96 #[(sv o m D)] d fun R S => (∃ (r : OA) (s t : Nat), R = (sv r s t) ∧ qdh (σ := (OA × Nat × Nat) × Int × Unit) (fun a e u => qa1 (decide (a.2.1 < ((p : Nat) : Int))) ((idx a.2.1 p E fun l => ldI e ((l.add ((a.2.1.toNat) * 4)).add 0) fun T => ldI e ((l.add ((a.2.1.toNat) * 4)).add 1) fun U => ldI e ((l.add ((a.2.1.toNat) * 4)).add 2) fun V => ldI e ((l.add ((a.2.1.toNat) * 4)).add 3) fun W => newK e (.cells #[(iv 0), (iv 0), (iv 0), (iv 0)] 63) fun b X => qa5 (bx b) [(iv T), (iv U), (iv V), (iv W)] 0 X fun j => ldI j ((bx b).add 0) fun Y => ldI j ((bx b).add 1) fun Z => ldI j ((bx b).add 2) fun a0 => ldI j ((bx b).add 3) fun a1 => Run Tryz.prog (Instr.lookup 106 (.map (some n)) (.agg #[(iv Y), (iv Z), (iv a0), (iv a1)]) false) j fun a2 f => (∃ (v : Bool), a2 = (.bool v) ∧ qa1 (!v) (ldI f ((bx b).add 0) fun a3 => ldI f ((bx b).add 1) fun a4 => ldI f ((bx b).add 2) fun a5 => ldI f ((bx b).add 3) fun a6 => (∃ g, (Instr.mapUpdate 106 (.map (some n)) (.agg #[(iv a3), (iv a4), (iv a5), (iv a6)]) (.bool true)).run Tryz.prog f = .ok () g ∧ ldI g ((bx b).add 0) fun a7 => ldI g ((bx b).add 1) fun a8 => ldI g ((bx b).add 2) fun a9 => ldI g ((bx b).add 3) fun aa => Run Tryz.prog (Instr.buildSlice 28 1 #[(0, (.agg #[(iv a7), (iv a8), (iv a9), (iv aa)]))]) g fun ab ac => ∃ (x : OA) (y z : Nat), ab = .slice x y z ∧ Run Tryz.prog (Builtin.append_ #[28, 28] 28 #[(sv a.1.1 a.1.2.1 a.1.2.2), (sv x y z)]) ac fun ad ae => ∃ (A : OA) (B C : Nat), ad = .slice A B C ∧ u ((A, B, C), (wrap .i64 (a.2.1 + 1)), ()) ae)) (u ((a.1.1, a.1.2.1, a.1.2.2), (wrap .i64 (a.2.1 + 1)), ()) f)))) (K (sv a.1.1 a.1.2.1 a.1.2.2) e)) ((r, s, t), 0, ()) S))) (0, ()) F

def qbH.ann : Ann := (.seq .l (.seq .l (.seq (.seq .l (.one (.loop [(14, .int .i64)] (.seq .l (.seq (.two .l .l) (.seq (.one (.seq .l .l)) .l)))))) (.seq .l (.seq (.seq .l (.one (.loop [(8, .sl), (25, .int .i64)] (.seq .l (.seq (.two .l .l) (.seq (.one (.seq .l (.seq .l (.two (.seq .l .l) .l)))) .l)))))) (.seq .l .l))))))

theorem qbH.con {i d r : List D.Access} {A B : OA} {C E : Nat} {w : World} (hp : M.qer i d) (hr : r = M.qbH i d) (R : Row el63 w A i) (aa : i.length ≤ C) (R1 : Row el63 w B d) (aJ : d.length ≤ E) :
    Cl 42 #[(sv A i.length C), (sv B d.length E)] w (fun v_ m => ∃ (S : OA) (T : Nat), v_ = (sv S r.length T) ∧ Own el63 m w.heap.size S T r ∧ Ext w m) := by
 have H := wp.qbH.math i d hp
 have b := Ext.refl w
 refine begK mixed Tryz.f42 ann (vc A i.length C B d.length E) ?_
 unfold vc
 unfold wp.qbH at H
 refine qpC (f := Value.bool) (n := 4) (fun U aK p ab => ?_)
 have c := p.mono b.size
 have b := qa6 b ab
 obtain ⟨ac, ⟨ad, ae⟩, V⟩ := H
 refine ⟨fun F G m => ∃ (l : Int) (u : List (List Int × Bool)), G = (l, ()) ∧ ac F (l, u, ()) ∧ Ext w m ∧ MapT Value.bool m w.heap.size U 4 u, ⟨ad, 0, ([] : List (List Int × Bool)), rfl, ae, b, c⟩, ?_⟩
 rintro af _ aL ⟨l, u, rfl, W, b, c⟩
 have H := V af _ W
 clear V W
 try dsimp only at H ⊢
 apply brc H<;>intro h H
 ·obtain ⟨⟨X, Y⟩, H⟩ := H
  obtain ⟨ag, ah, x⟩ := Row.at (R.ext b) X Y
  refine ⟨X, Y, ag, ah, _, (x 0 _ rfl), _, (x 1 _ rfl), _, (x 2 _ rfl), _, (x 3 _ rfl), ?_⟩
  refine qaL (fun aM aN I J Z => ?_)
  have c := c.ext Z
  have o := J
  have I := Nat.le_trans b.size I
  have b := qa6 b Z
  refine stB o 0 #[(iv ((rd i l).Phase)), (iv ((rd i l).Warp)), (iv ((rd i l).Address)), (iv ((rd i l).Kind))] (fun aO J a0 => ?_)
  have c := c.chg a0 (c.ne o)
  have b := echg b a0 I
  have o := J
  refine ⟨_, (o.a 0), _, (o.a 1), _, (o.a 2), _, (o.a 3), ?_⟩
  refine qom c qpz (k := [(rd i l).Phase, (rd i l).Warp, (rd i l).Address, (rd i l).Kind]) rfl (v := true) (fun aP p ai => ?_)
  have b := echg b ai c.low
  have c := p
  obtain ⟨aj, ak, al⟩ := H
  exact ⟨aj, ak, _, _, rfl, al, b, c⟩
 obtain ⟨am, H⟩ := H
 obtain ⟨a1, an, H⟩ := qaa H
 refine (qam.con am an (R.ext b) aa).mono ?_
 rintro _ w64 ⟨a2, a3, rfl, P6, a4⟩
 have c := c.ext a4
 have O6 := P6.mono b.size
 have b := qa6 b a4
 refine ⟨a2, a1.length, a3, rfl, ?_⟩
 obtain ⟨ao, ⟨ap, aq⟩, a5⟩ := H
 refine ⟨fun F G m => ∃ (q : List D.Access) (g : Int) (K : List (List Int × Bool)) (s : OA) (t : Nat), G = ((s, q.length, t), g, ()) ∧ ao F (q, g, K, ()) ∧ Ext w m ∧ Own el63 m w.heap.size s t q ∧ MapT Value.bool m w.heap.size U 4 K, ⟨ap, a1, 0, u, a2, a3, rfl, aq, b, O6, c⟩, ?_⟩
 rintro ar _ aQ ⟨q, g, K, s, t, rfl, a6, b, j, c⟩
 have H := a5 ar _ a6
 clear a5 a6
 try dsimp only at H ⊢
 apply brc H<;>intro h H
 ·obtain ⟨⟨a7, a8⟩, H⟩ := H
  obtain ⟨au, av, y⟩ := Row.at (R1.ext b) a7 a8
  refine ⟨a7, a8, au, av, _, (y 0 _ rfl), _, (y 1 _ rfl), _, (y 2 _ rfl), _, (y 3 _ rfl), ?_⟩
  refine qaL (fun aR aS z L N => ?_)
  have aw := j.qaD z
  have c := c.ext N
  have e := L
  have z := Nat.le_trans b.size z
  have b := qa6 b N
  refine stB e 0 #[(iv ((rd d g).Phase)), (iv ((rd d g).Warp)), (iv ((rd d g).Address)), (iv ((rd d g).Kind))] (fun aT L O => ?_)
  have c := c.chg O (c.ne e)
  have j := (j.ext N).chg O aw
  have b := echg b O z
  have e := L
  refine ⟨_, (e.a 0), _, (e.a 1), _, (e.a 2), _, (e.a 3), ?_⟩
  refine qoP c qpz qqd (k := [(rd d g).Phase, (rd d g).Warp, (rd d g).Address, (rd d g).Kind]) rfl ?_
  refine ⟨_, rfl, ?_⟩
  apply brc H<;>intro h H
  ·refine ⟨_, (e.a 0), _, (e.a 1), _, (e.a 2), _, (e.a 3), ?_⟩
   refine qom c qpz (k := [(rd d g).Phase, (rd d g).Warp, (rd d g).Address, (rd d g).Kind]) rfl (v := true) (fun aU p P => ?_)
   have j := j.chg P (c.apart j)
   have e := e.chg P (fun h_ => c.ne e h_.symm)
   have b := echg b P c.low
   refine ⟨_, (e.a 0), _, (e.a 1), _, (e.a 2), _, (e.a 3), ?_⟩
   refine qaz el63 ([(rd d g)] : List D.Access) (fun _ => by kernel_rfl) rfl (fun aV aW ax Q => ?_)
   have j := j.ext Q
   have c := p.ext Q
   have ay := ax.mono b.size
   have b := qa6 b Q
   obtain ⟨az, H⟩ := H
   refine appO qng j ay.row b.size az (fun aA aB aX aC a9 => ?_)
   have c := c.app a9 (c.apart j)
   have b := eapp b a9 j
   have j := aC
   obtain ⟨aD, aE, aF⟩ := H
   exact ⟨aD, aE, _, _, _, aA, aB, rfl, aF, b, j, c⟩
  obtain ⟨aG, aH, aI⟩ := H
  exact ⟨aG, aH, q, _, _, s, t, rfl, aI, b, j, c⟩
 cases hr.trans H.symm
 exact ⟨s, t, rfl, j, b⟩
def cmp_Compare_int.vc (b c : Int) (w : World) (K : VK) : Prop :=
  Cl 158 #[(iv b)] w fun f g => (∃ (e : Bool), f = (.bool e) ∧ Cl 158 #[(iv c)] g fun h a => (∃ (d : Bool), h = (.bool d) ∧ qa1 e (qa1 d (K (iv 0) a) (K (iv (-1)) a)) (qa1 d (K (iv 1) a) (qa1 (decide (b < c)) (K (iv (-1)) a) (qa1 (decide (b > c)) (K (iv 1) a) (K (iv 0) a))))))

def cmp_Compare_int.ann : Ann := (.seq .l (.seq .l (.seq .l (.seq (.seq .l (.two (.seq (.seq .l (.two (.seq .l .l) .l)) (.seq .l .l)) .l)) (.seq (.seq .l (.two (.seq .l .l) .l)) (.seq (.seq .l (.two (.seq .l .l) .l)) (.seq (.seq .l (.two (.seq .l .l) .l)) (.seq .l .l))))))))

theorem cmp_Compare_int.con {c d r : Int} {w : World} (e : M.qfu c d) (a : r = M.cmp_Compare_int c d)  :
    Cl 110 #[(iv c), (iv d)] w (fun f g => f = (iv r) ∧ Ext w g) := by
 have H := wp.cmp_Compare_int.math c d e
 refine begK mixed Tryz.f110 ann (vc c d) ?_
 unfold vc
 unfold wp.cmp_Compare_int at H
 obtain ⟨i, j, H⟩ := qaa H
 refine (cmp_isNaN_int.con j ).mono ?_
 rintro _ o ⟨rfl, k⟩
 refine ⟨i, rfl, ?_⟩
 obtain ⟨l, m, H⟩ := qaa H
 refine (cmp_isNaN_int.con m ).mono ?_
 rintro _ p ⟨rfl, n⟩
 have b := qa6 (qa6 (Ext.refl w) k) n
 refine ⟨l, rfl, ?_⟩
 apply brc H<;>intro h H
 ·apply brc H<;>intro h H
  ·cases a.trans H.symm
   exact ⟨rfl, b⟩
  cases a.trans H.symm
  exact ⟨rfl, b⟩
 apply brc H<;>intro h H
 ·cases a.trans H.symm
  exact ⟨rfl, b⟩
 apply brc H<;>intro h H
 ·cases a.trans H.symm
  exact ⟨rfl, b⟩
 apply brc H<;>intro h H
 ·cases a.trans H.symm
  exact ⟨rfl, b⟩
 cases a.trans H.symm
 exact ⟨rfl, b⟩
def qaF.vc (c d e f g h i j : Int) (w : World) (K : VK) : Prop :=
  newK w (.cells #[(iv c), (iv d), (iv e), (iv f)] 63) fun k l => newK l (.cells #[(iv g), (iv h), (iv i), (iv j)] 63) fun m a => ldI a (((bx k).add 2).add 0) fun n => ldI a (((bx m).add 2).add 0) fun o => Cl 110 #[(iv n), (iv o)] a fun p q => (∃ (b : Int), p = (iv b) ∧ K (iv b) q)

def qaF.ann : Ann := (.seq .l (.seq .l .l))

theorem qaF.con {b c : D.Access} {r : Int} {w : World} (f : M.qdK b c) (g : r = M.qaF b c)  :
    Cl 109 #[(.agg #[(iv b.Phase), (iv b.Warp), (iv b.Address), (iv b.Kind)]), (.agg #[(iv c.Phase), (iv c.Warp), (iv c.Address), (iv c.Kind)])] w (fun h i => h = (iv r) ∧ Ext w i) := by
 have H := wp.qaF.math b c f
 refine begK mixed Tryz.f109 ann (vc b.Phase b.Warp b.Address b.Kind c.Phase c.Warp c.Address c.Kind) ?_
 unfold vc
 unfold wp.qaF at H
 refine qaL (fun q s t d j => ?_)
 refine qaL (fun u v x k e => ?_)
 have d := d.ext e
 refine ⟨_, (d.a 2), _, (k.a 2), ?_⟩
 obtain ⟨l, H⟩ := H
 obtain ⟨m, n, H⟩ := qaa H
 refine (cmp_Compare_int.con l n ).mono ?_
 rintro _ y ⟨rfl, o⟩
 have p := qa6 (qa6 (qa6 (Ext.refl w) j) e) o
 refine ⟨m, rfl, ?_⟩
 cases g.trans H.symm
 exact ⟨rfl, p⟩
def qa9.vc (d : OA) (e c0 : Nat) (l x2 : Int) (m : Nat) (n : Array Value) (w : World) (K : VK) : Prop :=
  qdh (σ := Int × Unit) (fun j o k => qa1 (decide (j.1 < x2)) (qdh (σ := Int × Unit) (fun a b p => qfo (σ := Unit) (fun q => qa1 (decide (a.1 > l)) ((idx a.1 e d fun f => (idx (wrap .i64 (a.1 - 1)) e d fun g => ((∃ (r : Int), b.drew.cell? ((f.add ((a.1.toNat) * 4)).add 0) = some (iv r) ∧ ∃ (s : Int), b.drew.cell? ((f.add ((a.1.toNat) * 4)).add 1) = some (iv s) ∧ ∃ (t : Int), b.drew.cell? ((f.add ((a.1.toNat) * 4)).add 2) = some (iv t) ∧ ∃ (u : Int), b.drew.cell? ((f.add ((a.1.toNat) * 4)).add 3) = some (iv u) ∧ ((∃ (v : Int), b.drew.cell? ((g.add (((wrap .i64 (a.1 - 1)).toNat) * 4)).add 0) = some (iv v) ∧ ∃ (x : Int), b.drew.cell? ((g.add (((wrap .i64 (a.1 - 1)).toNat) * 4)).add 1) = some (iv x) ∧ ∃ (y : Int), b.drew.cell? ((g.add (((wrap .i64 (a.1 - 1)).toNat) * 4)).add 2) = some (iv y) ∧ ∃ (z : Int), b.drew.cell? ((g.add (((wrap .i64 (a.1 - 1)).toNat) * 4)).add 3) = some (iv z) ∧ ((Cl m (#[(.agg #[(iv r), (iv s), (iv t), (iv u)]), (.agg #[(iv v), (iv x), (iv y), (iv z)])] ++ n) b.drew fun a3 A => (∃ (B : Int), a3 = (iv B) ∧ qa1 (decide (B < 0)) (q () A) (k ((wrap .i64 (j.1 + 1)), ()) A))) ∧ True)) ∧ True)) ∧ (∃ (C : Int), b.drew.cell? ((g.add (((wrap .i64 (a.1 - 1)).toNat) * 4)).add 0) = some (iv C) ∧ ∃ (D : Int), b.drew.cell? ((g.add (((wrap .i64 (a.1 - 1)).toNat) * 4)).add 1) = some (iv D) ∧ ∃ (E : Int), b.drew.cell? ((g.add (((wrap .i64 (a.1 - 1)).toNat) * 4)).add 2) = some (iv E) ∧ ∃ (F : Int), b.drew.cell? ((g.add (((wrap .i64 (a.1 - 1)).toNat) * 4)).add 3) = some (iv F) ∧ ((∃ (G : Int), b.drew.cell? ((f.add ((a.1.toNat) * 4)).add 0) = some (iv G) ∧ ∃ (H : Int), b.drew.cell? ((f.add ((a.1.toNat) * 4)).add 1) = some (iv H) ∧ ∃ (I : Int), b.drew.cell? ((f.add ((a.1.toNat) * 4)).add 2) = some (iv I) ∧ ∃ (J : Int), b.drew.cell? ((f.add ((a.1.toNat) * 4)).add 3) = some (iv J) ∧ ((Cl m (#[(.agg #[(iv G), (iv H), (iv I), (iv J)]), (.agg #[(iv C), (iv D), (iv E), (iv F)])] ++ n) b.drew fun a4 L => (∃ (M : Int), a4 = (iv M) ∧ qa1 (decide (M < 0)) (q () L) (k ((wrap .i64 (j.1 + 1)), ()) L))) ∧ True)) ∧ True)) ∧ True)))) (((((((k ((wrap .i64 (j.1 + 1)), ()) b.drew) ∧ True)) ∧ True)) ∧ (((((k ((wrap .i64 (j.1 + 1)), ()) b.drew) ∧ True)) ∧ True)) ∧ True))) fun ad c => (idx (wrap .i64 (a.1 - 1)) e d fun h => (idx a.1 e d fun i => ((∃ (N : Int), c.drew.cell? ((h.add (((wrap .i64 (a.1 - 1)).toNat) * 4)).add 0) = some (iv N) ∧ ∃ (O : Int), c.drew.cell? ((h.add (((wrap .i64 (a.1 - 1)).toNat) * 4)).add 1) = some (iv O) ∧ ∃ (P : Int), c.drew.cell? ((h.add (((wrap .i64 (a.1 - 1)).toNat) * 4)).add 2) = some (iv P) ∧ ∃ (Q : Int), c.drew.cell? ((h.add (((wrap .i64 (a.1 - 1)).toNat) * 4)).add 3) = some (iv Q) ∧ ((∃ (R : Int), c.drew.cell? ((i.add ((a.1.toNat) * 4)).add 0) = some (iv R) ∧ ∃ (S : Int), c.drew.cell? ((i.add ((a.1.toNat) * 4)).add 1) = some (iv S) ∧ ∃ (T : Int), c.drew.cell? ((i.add ((a.1.toNat) * 4)).add 2) = some (iv T) ∧ ∃ (U : Int), c.drew.cell? ((i.add ((a.1.toNat) * 4)).add 3) = some (iv U) ∧ (idx a.1 e d fun a5 => ((qa5 (a5.add ((a.1.toNat) * 4)) [(iv N), (iv O), (iv P), (iv Q)] 0 c.drew fun a6 => (idx (wrap .i64 (a.1 - 1)) e d fun a7 => ((qa5 (a7.add (((wrap .i64 (a.1 - 1)).toNat) * 4)) [(iv R), (iv S), (iv T), (iv U)] 0 a6 fun a8 => p ((wrap .i64 (a.1 - 1)), ()) a8) ∧ True))) ∧ True))) ∧ True)) ∧ (∃ (V : Int), c.drew.cell? ((i.add ((a.1.toNat) * 4)).add 0) = some (iv V) ∧ ∃ (W : Int), c.drew.cell? ((i.add ((a.1.toNat) * 4)).add 1) = some (iv W) ∧ ∃ (X : Int), c.drew.cell? ((i.add ((a.1.toNat) * 4)).add 2) = some (iv X) ∧ ∃ (Y : Int), c.drew.cell? ((i.add ((a.1.toNat) * 4)).add 3) = some (iv Y) ∧ ((∃ (Z : Int), c.drew.cell? ((h.add (((wrap .i64 (a.1 - 1)).toNat) * 4)).add 0) = some (iv Z) ∧ ∃ (a0 : Int), c.drew.cell? ((h.add (((wrap .i64 (a.1 - 1)).toNat) * 4)).add 1) = some (iv a0) ∧ ∃ (a1 : Int), c.drew.cell? ((h.add (((wrap .i64 (a.1 - 1)).toNat) * 4)).add 2) = some (iv a1) ∧ ∃ (a2 : Int), c.drew.cell? ((h.add (((wrap .i64 (a.1 - 1)).toNat) * 4)).add 3) = some (iv a2) ∧ (idx a.1 e d fun a9 => ((qa5 (a9.add ((a.1.toNat) * 4)) [(iv Z), (iv a0), (iv a1), (iv a2)] 0 c.drew fun aa => (idx (wrap .i64 (a.1 - 1)) e d fun ab => ((qa5 (ab.add (((wrap .i64 (a.1 - 1)).toNat) * 4)) [(iv V), (iv W), (iv X), (iv Y)] 0 aa fun ac => p ((wrap .i64 (a.1 - 1)), ()) ac) ∧ True))) ∧ True))) ∧ True)) ∧ True)))) (j.1, ()) o) (K (.tuple #[]) o)) ((wrap .i64 (l + 1)), ()) w

def qa9.ann : Ann := (.seq .l (.one (.loop [(8, .int .i64)] (.seq (.seq .l (.two .l .l)) (.seq (.one (.seq .l (.one (.loop [(9, .int .i64)] (.cut [] (.seq .each (.two .l .l)) (.seq (.one .each) .l)))))) .l)))))

theorem qa9.start {A0 : OA} {n0 c0 : Nat} {x1 x2 : Int} {f3 : Nat} {cap3 : Array Value} {w : World} {K : Value → World → Prop} (h : qa9.vc A0 n0 c0 x1 x2 f3 cap3 w K) : Cl 187 #[(sv A0 n0 c0), (iv x1), (iv x2), (.func (.func f3) #[] cap3)] w K :=
  qdM mixed (fn := Tryz.f187) (by kernel_rfl) (by kernel_rfl) (an := qa9.ann) (args := [(sv A0 n0 c0), (iv x1), (iv x2), (.func (.func f3) #[] cap3)]) (Eq.mpr (by kernel_rfl) h)

theorem qa9.con {g : List D.Access} {f : OA} {m U : Nat} {p t : Int} {V : Array Value} {u : D.Access → D.Access → Int} {B : D.Access → D.Access → Prop} {r : (List D.Access)} {w : World} (hp : M.qcu g p t u B) (hr : r = M.qa9 g p t u) (a : Own el63 w 0 f m g) (W : ∀ (n : D.Access) (o : D.Access), B n o → ∀ e : World, Chg (InB f) w e → Cl U (#[(.agg #[(iv n.Phase), (iv n.Warp), (iv n.Address), (iv n.Kind)]), (.agg #[(iv o.Phase), (iv o.Warp), (iv o.Address), (iv o.Kind)])] ++ V) e (fun C a7 => C = (iv (u n o)) ∧ Ext e a7)) :
    Cl 187 #[(sv f g.length m), (iv p), (iv t), (.func (.func U) #[] V)] w (fun C e => C = (.tuple #[]) ∧ Own el63 e 0 f m r ∧ r.length = g.length ∧ Chg (InB f) w e) := by
 have H := wp.qa9.math g p t u B hp
 have b := Chg.refl (InB f) w
 refine qa9.start ?_
 unfold vc
 unfold wp.qa9 at H
 obtain ⟨a8, ⟨a9, aa⟩, X⟩ := H
 refine ⟨fun E q e => ∃ (v : Int) (s : List D.Access), q = (v, ()) ∧ a8 E (v, s, ()) ∧ Chg (InB f) w e ∧ Own el63 e 0 f m s ∧ g.length = s.length, ⟨a9, (wrap .i64 (p + 1)), g, rfl, aa, b, a, (by first | rfl | assumption | omega | (simp; done) | (simp; omega) | (simp; assumption))⟩, ?_⟩
 rintro ab _ aZ ⟨v, s, rfl, Y, b, a, ac⟩
 have H := X ab _ Y
 clear X Y
 try dsimp only at H ⊢
 apply brc H<;>intro h H
 ·obtain ⟨ad, ⟨ae, af⟩, Z⟩ := H
  refine ⟨fun E q e => ∃ (d : Int) (c : List D.Access), q = (d, ()) ∧ ad E (d, c, ()) ∧ Chg (InB f) w e ∧ Own el63 e 0 f m c ∧ g.length = c.length, ⟨ae, v, s, rfl, af, b, a, (by first | rfl | assumption | omega | (simp; done) | (simp; omega) | (simp; assumption))⟩, ?_⟩
  rintro ag _ b0 ⟨d, c, rfl, a0, b, a, b1⟩
  have H := Z ag _ a0
  clear Z a0
  try dsimp only at H ⊢
  obtain ⟨ah, ai, H⟩ := qd9 H
  refine ⟨fun q e => q = (()) ∧ ah (()) ∧ Chg (InB f) w e ∧ Own el63 e 0 f m c, ?_, ?_⟩
  ·have a := a.ext (Ext.drew _)
   have b := b.then (Ext.drew _)
   apply brc H<;>intro h H
   ·obtain ⟨⟨a1, F⟩, H⟩ := H
    obtain ⟨aj, ak, i⟩ := Row.at a.row a1 F
    refine ⟨a1, (by first | exact F | omega | (simp at F ⊢; omega)), aj, ak, ?_⟩
    obtain ⟨⟨a2, G⟩, H⟩ := H
    obtain ⟨al, am, j⟩ := Row.at a.row a2 G
    refine ⟨a2, (by first | exact G | omega | (simp at G ⊢; omega)), al, am, ?_⟩
    refine And.intro ?_ ?_
    ·have H := H.1
     refine ⟨_, (i 0 _ rfl), _, (i 1 _ rfl), _, (i 2 _ rfl), _, (i 3 _ rfl), ?_⟩
     refine qcn ?_
     refine ⟨_, (j 0 _ rfl), _, (j 1 _ rfl), _, (j 2 _ rfl), _, (j 3 _ rfl), ?_⟩
     refine qcn ?_
     obtain ⟨an, H⟩ := H
     obtain ⟨ao, ap, H⟩ := qaa H
     refine (W (rd c d) (rd c (wrap .i64 (d - 1))) an _ b).mono ?_
     rintro _ b2 ⟨rfl, a3⟩
     rw [← ap]
     have a := a.ext a3
     have b := b.then a3
     refine ⟨ao, rfl, ?_⟩
     apply brc H<;>intro h H
     ·exact ⟨rfl, H, b, a⟩
     obtain ⟨aq, ar, au⟩ := H
     exact ⟨aq, ar, _, _, rfl, au, b, a, (by first | rfl | assumption | omega | (simp; done) | (simp; omega) | (simp; assumption))⟩
    refine And.intro ?_ ?_
    ·have H := H.2.1
     refine ⟨_, (j 0 _ rfl), _, (j 1 _ rfl), _, (j 2 _ rfl), _, (j 3 _ rfl), ?_⟩
     refine qcn ?_
     refine ⟨_, (i 0 _ rfl), _, (i 1 _ rfl), _, (i 2 _ rfl), _, (i 3 _ rfl), ?_⟩
     refine qcn ?_
     obtain ⟨av, H⟩ := H
     obtain ⟨aw, ax, H⟩ := qaa H
     refine (W (rd c d) (rd c (wrap .i64 (d - 1))) av _ b).mono ?_
     rintro _ b3 ⟨rfl, a4⟩
     rw [← ax]
     have a := a.ext a4
     have b := b.then a4
     refine ⟨aw, rfl, ?_⟩
     apply brc H<;>intro h H
     ·exact ⟨rfl, H, b, a⟩
     obtain ⟨ay, az, aA⟩ := H
     exact ⟨ay, az, _, _, rfl, aA, b, a, (by first | rfl | assumption | omega | (simp; done) | (simp; omega) | (simp; assumption))⟩
    exact trivial
   refine And.intro ?_ ?_
   ·have H := H.1
    refine qcn ?_
    refine qcn ?_
    obtain ⟨aB, aC, aD⟩ := H
    exact ⟨aB, aC, _, _, rfl, aD, b, a, (by first | rfl | assumption | omega | (simp; done) | (simp; omega) | (simp; assumption))⟩
   refine And.intro ?_ ?_
   ·have H := H.2.1
    refine qcn ?_
    refine qcn ?_
    obtain ⟨aE, aF, aG⟩ := H
    exact ⟨aE, aF, _, _, rfl, aG, b, a, (by first | rfl | assumption | omega | (simp; done) | (simp; omega) | (simp; assumption))⟩
   exact trivial
  rintro _ b4 ⟨rfl, H, b, a⟩
  have H := ai _ H
  try dsimp only at H ⊢
  have a := a.ext (Ext.drew _)
  have b := b.then (Ext.drew _)
  obtain ⟨⟨a5, I⟩, H⟩ := H
  obtain ⟨aH, aI, k⟩ := Row.at a.row a5 I
  refine ⟨a5, (by first | exact I | omega | (simp at I ⊢; omega)), aH, aI, ?_⟩
  obtain ⟨⟨a6, J⟩, H⟩ := H
  obtain ⟨aJ, aK, l⟩ := Row.at a.row a6 J
  refine ⟨a6, (by first | exact J | omega | (simp at J ⊢; omega)), aJ, aK, ?_⟩
  refine And.intro ?_ ?_
  ·have H := H.1
   refine ⟨_, (k 0 _ rfl), _, (k 1 _ rfl), _, (k 2 _ rfl), _, (k 3 _ rfl), ?_⟩
   refine qcn ?_
   refine ⟨_, (l 0 _ rfl), _, (l 1 _ rfl), _, (l 2 _ rfl), _, (l 3 _ rfl), ?_⟩
   obtain ⟨⟨K, x⟩, H⟩ := H
   obtain ⟨aL, L, b5⟩ := Row.at a.row K x
   refine ⟨K, (by first | exact x | omega | (simp at x ⊢; omega)), aL, L, ?_⟩
   refine qcn ?_
   refine Own.stA a L K x 0 (⟨(rd c (wrap .i64 (d - 1))).Phase, (rd c (wrap .i64 (d - 1))).Warp, (rd c (wrap .i64 (d - 1))).Address, (rd c (wrap .i64 (d - 1))).Kind⟩ : D.Access) (fun b6 N aM b7 => ?_)
   have a := N
   obtain ⟨⟨O, y⟩, H⟩ := H
   obtain ⟨aN, P, b8⟩ := Row.at a.row O y
   refine ⟨O, (by first | exact y | omega | (simp at y ⊢; omega)), aN, P, ?_⟩
   refine qcn ?_
   refine Own.stA a P O y 0 (⟨(rd c d).Phase, (rd c d).Warp, (rd c d).Address, (rd c d).Kind⟩ : D.Access) (fun b9 a aO ba => ?_)
   have b := (b.chgb aM (Or.inr ⟨_, L, rfl⟩)).chgb aO (Or.inr ⟨_, P, rfl⟩)
   obtain ⟨aP, aQ, aR⟩ := H
   exact ⟨aP, aQ, _, _, rfl, aR, b, a, (by first | rfl | assumption | omega | (simp; done) | (simp; omega) | (simp; assumption))⟩
  refine And.intro ?_ ?_
  ·have H := H.2.1
   refine ⟨_, (l 0 _ rfl), _, (l 1 _ rfl), _, (l 2 _ rfl), _, (l 3 _ rfl), ?_⟩
   refine qcn ?_
   refine ⟨_, (k 0 _ rfl), _, (k 1 _ rfl), _, (k 2 _ rfl), _, (k 3 _ rfl), ?_⟩
   obtain ⟨⟨Q, z⟩, H⟩ := H
   obtain ⟨aS, R, bb⟩ := Row.at a.row Q z
   refine ⟨Q, (by first | exact z | omega | (simp at z ⊢; omega)), aS, R, ?_⟩
   refine qcn ?_
   refine Own.stA a R Q z 0 (⟨(rd c (wrap .i64 (d - 1))).Phase, (rd c (wrap .i64 (d - 1))).Warp, (rd c (wrap .i64 (d - 1))).Address, (rd c (wrap .i64 (d - 1))).Kind⟩ : D.Access) (fun bc N aT bd => ?_)
   have a := N
   obtain ⟨⟨S, A⟩, H⟩ := H
   obtain ⟨aU, T, be⟩ := Row.at a.row S A
   refine ⟨S, (by first | exact A | omega | (simp at A ⊢; omega)), aU, T, ?_⟩
   refine qcn ?_
   refine Own.stA a T S A 0 (⟨(rd c d).Phase, (rd c d).Warp, (rd c d).Address, (rd c d).Kind⟩ : D.Access) (fun bf a aV bg => ?_)
   have b := (b.chgb aT (Or.inr ⟨_, R, rfl⟩)).chgb aV (Or.inr ⟨_, T, rfl⟩)
   obtain ⟨aW, aX, aY⟩ := H
   exact ⟨aW, aX, _, _, rfl, aY, b, a, (by first | rfl | assumption | omega | (simp; done) | (simp; omega) | (simp; assumption))⟩
  exact trivial
 cases hr.trans H.symm
 exact ⟨rfl, a, (by first | (simp only [bC, wC, List.length_set]; done) | (simp only [bC, wC, List.length_set, ← ac]; done) | (simp; done) | (simp; omega) | omega), b⟩
def qaj.vc (b : OA) (c g : Nat) (F G H : Int) (d : Nat) (e : Array Value) (w : World) (K : VK) : Prop :=
  qdh (σ := Int × Int × Int × Bool × Bool × Unit) (fun a l t => qa1 (decide ((wrap .i64 (a.2.1 - a.1)) ≤ 12)) (Cl 187 #[(sv b c g), (iv a.1), (iv a.2.1), (.func (.func d) #[] e)] l fun I J => (I = (.tuple #[]) ∧ K (.tuple #[]) J)) (qa1 (a.2.2.1 == 0) (Cl 188 #[(sv b c g), (iv a.1), (iv a.2.1), (.func (.func d) #[] e)] l fun L M => (L = (.tuple #[]) ∧ K (.tuple #[]) M)) (qfo (σ := Int × Unit) (fun u => qa1 (!a.2.2.2.1) (Cl 189 #[(sv b c g), (iv a.1), (iv a.2.1), (.func (.func d) #[] e)] l fun N O => (N = (.tuple #[]) ∧ u ((wrap .i64 (a.2.2.1 - 1)), ()) O)) (u (a.2.2.1, ()) l)) fun k P => Cl 190 #[(sv b c g), (iv a.1), (iv a.2.1), (.func (.func d) #[] e)] P fun Q v => (∃ R : Value, (∃ (m : Int), R = (iv m) ∧ ∃ S : Value, (∃ (n : Int), S = (iv n) ∧ Q = (.tuple #[(iv m), (iv n)]) ∧ qfo (σ := Int × Int × Unit) (fun x => qa1 (n == 2) (Cl 191 #[(sv b c g), (iv a.1), (iv a.2.1), (.func (.func d) #[] e)] v fun T U => (T = (.tuple #[]) ∧ x ((wrap .i64 ((wrap .i64 (a.2.1 - 1)) - (wrap .i64 (m - a.1)))), 1, ()) U)) (x (m, n, ()) v)) fun j o => qfo (σ := Unit) (fun p => qa1 a.2.2.2.1 (qa1 a.2.2.2.2.1 (qa1 (j.2.1 == 1) (Cl 192 #[(sv b c g), (iv a.1), (iv a.2.1), (.func (.func d) #[] e)] o fun V y => (∃ (z : Bool), V = (.bool z) ∧ qa1 z (K (.tuple #[]) y) (p () y))) (p () o)) (p () o)) (p () o)) fun af f => qfo (σ := Bool × Unit) (fun A => (∃ i : Nat → Prop, qa1 (decide (a.1 > 0)) ((idx (wrap .i64 (a.1 - 1)) c b fun q => ldIM i f (q.add (((wrap .i64 (a.1 - 1)).toNat) * 4)) 0 fun W => ldIM i f (q.add (((wrap .i64 (a.1 - 1)).toNat) * 4)) 1 fun X => ldIM i f (q.add (((wrap .i64 (a.1 - 1)).toNat) * 4)) 2 fun Y => ldIM i f (q.add (((wrap .i64 (a.1 - 1)).toNat) * 4)) 3 fun Z => (idx j.1 c b fun r => ldIM i f (r.add ((j.1.toNat) * 4)) 0 fun a0 => ldIM i f (r.add ((j.1.toNat) * 4)) 1 fun a1 => ldIM i f (r.add ((j.1.toNat) * 4)) 2 fun a2 => ldIM i f (r.add ((j.1.toNat) * 4)) 3 fun a3 => Cl d (#[(.agg #[(iv W), (iv X), (iv Y), (iv Z)]), (.agg #[(iv a0), (iv a1), (iv a2), (iv a3)])] ++ e) f.drew fun a4 w64 => (∃ (B : Int), a4 = (iv B) ∧ qab i f w64 ∧ A ((!(decide (B < 0))), ()) w64)))) (A (false, ()) f.drew))) fun a5 C => qa1 a5.1 (Cl 193 #[(sv b c g), (iv a.1), (iv a.2.1), (iv j.1), (.func (.func d) #[] e)] C fun a6 a7 => (∃ (D : Int), a6 = (iv D) ∧ t (D, a.2.1, k.1, a.2.2.2.1, a.2.2.2.2.1, ()) a7)) (Cl 194 #[(sv b c g), (iv a.1), (iv a.2.1), (iv j.1), (.func (.func d) #[] e)] C fun a8 E => (∃ a9 : Value, (∃ (h : Int), a9 = (iv h) ∧ ∃ aa : Value, (∃ (s : Bool), aa = (.bool s) ∧ a8 = (.tuple #[(iv h), (.bool s)]) ∧ ((8 : Int) ≠ 0 ∧ qa1 (decide ((wrap .i64 (h - a.1)) < (wrap .i64 (a.2.1 - h)))) (Cl 156 #[(sv b c g), (iv a.1), (iv h), (iv k.1), (.func (.func d) #[] e)] E fun ab ac => (ab = (.tuple #[]) ∧ t ((wrap .i64 (h + 1)), a.2.1, k.1, (decide ((wrap .i64 (h - a.1)) ≥ (wrap .i64 (Int.tdiv (wrap .i64 (a.2.1 - a.1)) 8)))), s, ()) ac)) (Cl 156 #[(sv b c g), (iv (wrap .i64 (h + 1))), (iv a.2.1), (iv k.1), (.func (.func d) #[] e)] E fun ad ae => (ad = (.tuple #[]) ∧ t (a.1, h, k.1, (decide ((wrap .i64 (a.2.1 - h)) ≥ (wrap .i64 (Int.tdiv (wrap .i64 (a.2.1 - a.1)) 8)))), s, ()) ae))))))))))))) (F, G, H, true, true, ()) w

def qaj.ann : Ann := (.seq .l (.seq .l (.one (.loop [(1, .int .i64), (2, .int .i64), (3, .int .i64), (10, .bool), (11, .bool)] (.one (.seq .l (.seq (.seq .l (.two (.seq .l .l) .l)) (.seq (.seq .l (.two (.seq .l .l) .l)) (.cut [(3, .int .i64)] (.seq .l (.two (.seq .l .l) .l)) (.seq .l (.cut [(13, .int .i64), (14, .int .i64)] (.seq .l (.two (.seq .l (.seq .l .l)) .l)) (.cut [] (.seq .l (.two (.seq .l (.two .l .l)) .l)) (.seq (.cut [(97, .bool)] .l (.two (.seq .l (.seq .l .l)) .l)) (.seq .l (.seq .l (.seq .l (.seq .l (.seq .l (.two (.seq .l (.seq .l .l)) (.seq .l (.seq .l .l)))))))))))))))))))))

theorem qaj.start {A0 : OA} {n0 c0 : Nat} {x1 x2 x3 : Int} {f4 : Nat} {cap4 : Array Value} {w : World} {K : Value → World → Prop} (h : qaj.vc A0 n0 c0 x1 x2 x3 f4 cap4 w K) : Cl 156 #[(sv A0 n0 c0), (iv x1), (iv x2), (iv x3), (.func (.func f4) #[] cap4)] w K :=
  qdM mixed (fn := Tryz.f156) (by kernel_rfl) (by kernel_rfl) (an := qaj.ann) (args := [(sv A0 n0 c0), (iv x1), (iv x2), (iv x3), (.func (.func f4) #[] cap4)]) (Eq.mpr (by kernel_rfl) h)

theorem qaj.con {e : List D.Access} {b : OA} {n y : Nat} {i j k : Int} {z : Array Value} {o : D.Access → D.Access → Int} {p : D.Access → D.Access → Prop} {r : (List D.Access)} {w : World} (C : M.qdc e i j k o p) (E : r = M.qaj e i j k o) (l : Own el63 w 0 b n e) (F : ∀ (c : D.Access) (d : D.Access), p c d → ∀ a : World, Chg (InB b) w a → Cl y (#[(.agg #[(iv c.Phase), (iv c.Warp), (iv c.Address), (iv c.Kind)]), (.agg #[(iv d.Phase), (iv d.Warp), (iv d.Address), (iv d.Kind)])] ++ z) a (fun q G => q = (iv (o c d)) ∧ Ext a G)) :
    Cl 156 #[(sv b e.length n), (iv i), (iv j), (iv k), (.func (.func y) #[] z)] w (fun q a => q = (.tuple #[]) ∧ Own el63 a 0 b n r ∧ r.length = e.length ∧ Chg (InB b) w a) := by
 have H := wp.qaj.math e i j k o p C
 have f := Chg.refl (InB b) w
 refine qaj.start ?_
 unfold vc
 unfold wp.qaj at H
 obtain ⟨I, ⟨J, K⟩, A⟩ := H
 refine ⟨fun L N a => ∃ (s t u : Int) (v x : Bool), N = (s, t, u, v, x, ()) ∧ I L (s, t, u, v, x, ()) ∧ Chg (InB b) w a ∧ Own el63 a 0 b n e, ⟨J, i, j, k, true, true, rfl, K, f, l⟩, ?_⟩
 rintro O _ V ⟨s, t, u, v, x, rfl, B, f, l⟩
 have H := A O _ B
 clear A B
 try dsimp only at H ⊢
 apply brc H<;>intro h H
 ·obtain ⟨P, H⟩ := H
  obtain ⟨W, Q, H⟩ := qaa H
  refine (qa9.con P Q (l.mono (Nat.zero_le _)) (fun c d  m a R => F c d  m a (f.chg R (fun g m => (Or.inr m))))).mono ?_
  rintro _ X ⟨rfl, S, T, U⟩
  have f := f.chg U (fun g m => (Or.inr m))
  have l := S
  refine ⟨rfl, ?_⟩
  cases E.trans H.symm
  exact ⟨rfl, l, (by first | (simp only [bC, wC, List.length_set]; done) | (simp only [bC, wC, List.length_set, T]; done) | (simp; done) | (simp; omega) | omega), f⟩
 apply brc H<;>intro h H
 ·exact H.elim
 exact H.elim
def qa7.vc (c : OA) (a d e : Nat) (f : Array Value) (w : World) (K : VK) : Prop :=
  Cl 157 #[(.int .u64 (IntKind.wrap .u64 ((a : Nat) : Int)))] w fun g h => (∃ (b : Int), g = (iv b) ∧ Cl 156 #[(sv c a d), (iv 0), (iv ((a : Nat) : Int)), (iv b), (.func (.func e) #[] f)] h fun i j => (i = (.tuple #[]) ∧ K (.tuple #[]) j))

def qa7.ann : Ann := (.seq .l .l)

theorem qa7.start {A0 : OA} {n0 c0 f1 : Nat} {cap1 : Array Value} {w : World} {K : Value → World → Prop} (h : qa7.vc A0 n0 c0 f1 cap1 w K) : Cl 108 #[(sv A0 n0 c0), (.func (.func f1) #[] cap1)] w K :=
  qdM mixed (fn := Tryz.f108) (by kernel_rfl) (by kernel_rfl) (an := qa7.ann) (args := [(sv A0 n0 c0), (.func (.func f1) #[] cap1)]) (Eq.mpr (by kernel_rfl) h)

theorem qa7.con {d : List D.Access} {e : OA} {k n : Nat} {o : Array Value} {i : D.Access → D.Access → Int} {l : D.Access → D.Access → Prop} {r : (List D.Access)} {w : World} (q : M.qbz d i l) (s : r = M.qa7 d i) (f : Own el63 w 0 e k d) (t : ∀ (a : D.Access) (b : D.Access), l a b → ∀ c : World, Chg (InB e) w c → Cl n (#[(.agg #[(iv a.Phase), (iv a.Warp), (iv a.Address), (iv a.Kind)]), (.agg #[(iv b.Phase), (iv b.Warp), (iv b.Address), (iv b.Kind)])] ++ o) c (fun m u => m = (iv (i a b)) ∧ Ext c u)) :
    Cl 108 #[(sv e d.length k), (.func (.func n) #[] o)] w (fun m c => m = (.tuple #[]) ∧ Own el63 c 0 e k r ∧ r.length = d.length ∧ Chg (InB e) w c) := by
 have H := wp.qa7.math d i l q
 refine qa7.start ?_
 unfold vc
 unfold wp.qa7 at H
 obtain ⟨v, H⟩ := H
 obtain ⟨x, y, H⟩ := qaa H
 refine (qcP.con v y ).mono ?_
 rintro _ G ⟨rfl, p⟩
 have f := f.ext p
 have j := (Chg.refl (InB e) w).then p
 refine ⟨x, rfl, ?_⟩
 obtain ⟨z, H⟩ := H
 obtain ⟨I, A, H⟩ := qaa H
 refine (qaj.con z A (f.mono (Nat.zero_le _)) (fun a b  h c B => t a b  h c (j.chg B (fun g h => (Or.inr h))))).mono ?_
 rintro _ J ⟨rfl, C, E, F⟩
 have j := j.chg F (fun g h => (Or.inr h))
 have f := C
 refine ⟨rfl, ?_⟩
 cases s.trans H.symm
 exact ⟨rfl, f, (by first | (simp only [bC, wC, List.length_set]; done) | (simp only [bC, wC, List.length_set, E]; done) | (simp; done) | (simp; omega) | omega), j⟩
def qae.vc (d : OA) (e g : Nat) (w : World) (K : VK) : Prop :=
  qa1 (decide (((e : Nat) : Int) < 2)) (K (sv d e g) w) (qdh (σ := Int × Unit) (fun b f r => qa1 (decide (b.1 < ((e : Nat) : Int))) ((idx b.1 e d fun h => ldI f ((h.add ((b.1.toNat) * 4)).add 0) fun s => ldI f ((h.add ((b.1.toNat) * 4)).add 1) fun t => ldI f ((h.add ((b.1.toNat) * 4)).add 2) fun u => ldI f ((h.add ((b.1.toNat) * 4)).add 3) fun v => (idx (wrap .i64 (b.1 - 1)) e d fun i => ldI f ((i.add (((wrap .i64 (b.1 - 1)).toNat) * 4)).add 0) fun x => ldI f ((i.add (((wrap .i64 (b.1 - 1)).toNat) * 4)).add 1) fun y => ldI f ((i.add (((wrap .i64 (b.1 - 1)).toNat) * 4)).add 2) fun z => ldI f ((i.add (((wrap .i64 (b.1 - 1)).toNat) * 4)).add 3) fun A => qk8 Tryz.prog .eql 63 (.agg #[(iv s), (iv t), (iv u), (iv v)]) (.agg #[(iv x), (iv y), (iv z), (iv A)]) fun B => qa1 B (((0 : Int) ≤ b.1 ∧ b.1 ≤ ((e : Nat) : Int) ∧ qdh (σ := Int × Int × Unit) (fun a c m => qa1 (decide (a.2.1 < (((e - (b.1.toNat)) : Nat) : Int))) ((idx a.2.1 (e - (b.1.toNat)) ((if g = (b.1.toNat) then d else d.map (·.add ((b.1.toNat) * szOf Tryz.prog 63)))) fun j => ldI c ((j.add ((a.2.1.toNat) * 4)).add 0) fun C => ldI c ((j.add ((a.2.1.toNat) * 4)).add 1) fun D => ldI c ((j.add ((a.2.1.toNat) * 4)).add 2) fun E => ldI c ((j.add ((a.2.1.toNat) * 4)).add 3) fun F => (idx (wrap .i64 (a.2.1 - 1)) (e - (b.1.toNat)) ((if g = (b.1.toNat) then d else d.map (·.add ((b.1.toNat) * szOf Tryz.prog 63)))) fun k => ldI c ((k.add (((wrap .i64 (a.2.1 - 1)).toNat) * 4)).add 0) fun G => ldI c ((k.add (((wrap .i64 (a.2.1 - 1)).toNat) * 4)).add 1) fun H => ldI c ((k.add (((wrap .i64 (a.2.1 - 1)).toNat) * 4)).add 2) fun I => ldI c ((k.add (((wrap .i64 (a.2.1 - 1)).toNat) * 4)).add 3) fun J => qk8 Tryz.prog .neq 63 (.agg #[(iv C), (iv D), (iv E), (iv F)]) (.agg #[(iv G), (iv H), (iv I), (iv J)]) fun L => qa1 L ((idx a.2.1 (e - (b.1.toNat)) ((if g = (b.1.toNat) then d else d.map (·.add ((b.1.toNat) * szOf Tryz.prog 63)))) fun l => ∃ (n : Int), c.drew.cell? ((l.add ((a.2.1.toNat) * 4)).add 0) = some (iv n) ∧ ∃ (o : Int), c.drew.cell? ((l.add ((a.2.1.toNat) * 4)).add 1) = some (iv o) ∧ ∃ (p : Int), c.drew.cell? ((l.add ((a.2.1.toNat) * 4)).add 2) = some (iv p) ∧ ∃ (q : Int), c.drew.cell? ((l.add ((a.2.1.toNat) * 4)).add 3) = some (iv q) ∧ (idx a.1 e d fun M => qa5 (M.add ((a.1.toNat) * 4)) [(iv n), (iv o), (iv p), (iv q)] 0 c.drew fun N => m ((wrap .i64 (a.1 + 1)), (wrap .i64 (a.2.1 + 1)), ()) N))) (m (a.1, (wrap .i64 (a.2.1 + 1)), ()) c.drew)))) (((0 : Int) ≤ a.1 ∧ a.1 ≤ ((e : Nat) : Int) ∧ Run Tryz.prog (Builtin.clear_ #[28] 0 #[(sv (if g = (a.1.toNat) then d else d.map (·.add ((a.1.toNat) * szOf Tryz.prog 63))) (e - (a.1.toNat)) (g - (a.1.toNat)))]) c fun O P => O = .tuple #[] ∧ ((0 : Int) ≤ a.1 ∧ a.1 ≤ ((g : Nat) : Int) ∧ K (sv d (a.1.toNat) g) P)))) (b.1, 1, ()) f.drew)) (r ((wrap .i64 (b.1 + 1)), ()) f.drew)))) (K (sv d e g) f)) (1, ()) w)

def qae.ann : Ann := (.seq .l (.seq (.seq .l (.two (.seq .l .l) .l)) (.seq (.seq .l (.one (.loop [(3, .int .i64)] (.seq (.seq .l (.two .l .l)) (.seq (.one (.seq .l (.two (.seq .l (.seq (.seq .l (.one (.loop [(3, .int .i64), (5, .int .i64)] (.seq (.seq .l (.two .l .l)) (.seq (.one (.seq .l (.two (.seq .l .l) .l))) .l))))) (.seq .l (.seq .l .l)))) .l))) .l))))) (.seq .l .l))))

theorem qae.qpS (A0 : OA) (n0 c0 : Nat) (w : World) (K : Value → World → Prop) : vcF Tryz.prog Tryz.f111 qae.ann [(sv A0 n0 c0)] K w = qae.vc A0 n0 c0 w K := by kernel_rfl

theorem qae.start {A0 : OA} {n0 c0 : Nat} {w : World} {K : Value → World → Prop} (h : qae.vc A0 n0 c0 w K) : Cl 111 #[(sv A0 n0 c0)] w K :=
  qdM mixed (fn := Tryz.f111) (by kernel_rfl) (by kernel_rfl) (an := qae.ann) (args := [(sv A0 n0 c0)]) (by rw [qae.qpS]; exact h)
end Go.V
set_option linter.unusedVariables false
set_option linter.unusedSimpArgs false
set_option maxRecDepth 100000
namespace Go.V
open IntKind (wrap)
open Go.Proofs
theorem qoV : SlT Tryz.prog el63 28 := qms (by kernel_rfl) (by kernel_rfl)
theorem qo0 (x y : D.Access) : (List.all (List.zip [x.Phase, x.Warp, x.Address, x.Kind] [y.Phase, y.Warp, y.Address, y.Kind]) fun p => p.1 == p.2) = decide (x = y) := by
  rw [Bool.eq_iff_iff]
  cases x; cases y
  simp
theorem qpm (x y : D.Access) (w : World) : (eqGuard .eql 63 (.const undef) (.const undef) (.agg #[.int .i64 x.Phase, .int .i64 x.Warp, .int .i64 x.Address, .int .i64 x.Kind]) (.agg #[.int .i64 y.Phase, .int .i64 y.Warp, .int .i64 y.Address, .int .i64 y.Kind]) >>= fun _ => binOp .eql 63 (.agg #[.int .i64 x.Phase, .int .i64 x.Warp, .int .i64 x.Address, .int .i64 x.Kind]) (.agg #[.int .i64 y.Phase, .int .i64 y.Warp, .int .i64 y.Address, .int .i64 y.Kind])).run Tryz.prog w = .ok (.bool (decide (x = y))) w := by
  rw [← qo0]
  exact qpa (P := Tryz.prog) (t := 63) (xs := [x.Phase, x.Warp, x.Address, x.Kind]) (ys := [y.Phase, y.Warp, y.Address, y.Kind]) (by kernel_rfl) (by kernel_rfl) (by kernel_rfl) (by kernel_rfl) rfl (.const undef) (.const undef) w
theorem qpA (x y : D.Access) (w : World) : (eqGuard .neq 63 (.const undef) (.const undef) (.agg #[.int .i64 x.Phase, .int .i64 x.Warp, .int .i64 x.Address, .int .i64 x.Kind]) (.agg #[.int .i64 y.Phase, .int .i64 y.Warp, .int .i64 y.Address, .int .i64 y.Kind]) >>= fun _ => binOp .neq 63 (.agg #[.int .i64 x.Phase, .int .i64 x.Warp, .int .i64 x.Address, .int .i64 x.Kind]) (.agg #[.int .i64 y.Phase, .int .i64 y.Warp, .int .i64 y.Address, .int .i64 y.Kind])).run Tryz.prog w = .ok (.bool (!decide (x = y))) w := by
  rw [← qo0]
  exact qnz (P := Tryz.prog) (t := 63) (xs := [x.Phase, x.Warp, x.Address, x.Kind]) (ys := [y.Phase, y.Warp, y.Address, y.Kind]) (by kernel_rfl) (by kernel_rfl) (by kernel_rfl) (by kernel_rfl) rfl (.const undef) (.const undef) w
theorem acc_size : szOf Tryz.prog 63 = 4 := by kernel_rfl
set_option maxHeartbeats 1000000 in
theorem qae.con {c : List D.Access} {f : Option Addr} {p : Nat} {r : List D.Access} {w : World} (H : M.qcz c) (q : r = M.qae c) (E : Own el63 w 0 f p c) :
    Cll Tryz.prog 111 #[(.slice f c.length p)] w (fun I F => ∃ (x : Option Addr) (G : Nat), I = (.slice x r.length G) ∧ Own el63 F 0 x G r ∧ Mov w f x ∧ Chg (InB f) w F) := by
  have Q : c.length ≤ 17179869184 := H
  have q : r = M.qei c := q
  refine qae.start ?_
  unfold qae.vc
  refine qa2 (fun h => ?_) fun h => ?_
  · have hs := qij (l := c) (by simp at h; omega)
    rw [q, hs]
    exact ⟨f, p, rfl, E, Mov.same _ _, Chg.refl _ _⟩
  have hn : 2 ≤ c.length := by simp at h; omega
  refine ⟨fun m z w' => ∃ k : Nat, 1 ≤ k ∧ k ≤ c.length ∧ m = c.length - k ∧ z = ((k : Int), ()) ∧ M.qei (c.take k) = c.take k ∧ Own el63 w' 0 f p c ∧ Chg (InB f) w w',
    ⟨_, 1, Nat.le_refl _, by omega, rfl, rfl, qij (by rw [List.length_take]; omega), E, Chg.refl _ _⟩, ?_⟩
  rintro m _ R ⟨k, J, hk, rfl, rfl, hF, O, o⟩
  dsimp only
  refine qa2 (fun h => ?_) fun h => ?_
  · have hk : k < c.length := by simpa using h
    have wk : IntKind.wrap .i64 ((k : Int) - 1) = ((k - 1 : Nat) : Int) := by rw [w64 (by omega) (by omega)]; omega
    rw [wk]
    obtain ⟨a, ha, hat⟩ := Row.at O.row (i := (k : Int)) (by omega) (by omega)
    obtain ⟨b, hb, hbt⟩ := Row.at O.row (i := ((k - 1 : Nat) : Int)) (by omega) (by omega)
    refine ⟨by omega, by omega, a, ha, _, hat 0 _ rfl, _, hat 1 _ rfl, _, hat 2 _ rfl, _, hat 3 _ rfl, by omega, by omega, b, hb, _, hbt 0 _ rfl, _, hbt 1 _ rfl, _, hbt 2 _ rfl, _, hbt 3 _ rfl, ?_⟩
    refine ⟨_, qpm _ _, ?_⟩
    have up := qkD (l := c) J hk
    have O := O.ext (Ext.drew _)
    have o := o.then (Ext.drew _)
    refine qa2 (fun e => ?_) fun e => ?_
    · have e : rd c (k : Int) = rd c ((k - 1 : Nat) : Int) := by simpa using e
      rw [if_pos e] at up
      refine ⟨by omega, by omega, ?_⟩
      refine ⟨fun m z w' => ∃ (kk d : Nat) (ys : List D.Access), 1 ≤ d ∧ k + d ≤ c.length ∧ m = c.length - k - d ∧ z = ((kk : Int), (d : Int), ()) ∧ ys.length = c.length ∧ ys.take kk = M.qei (c.take (k + d)) ∧ kk < k + d ∧ (∀ i : Nat, k + d ≤ i + 1 → i < c.length → rd ys (i : Int) = rd c (i : Int)) ∧ Own el63 w' 0 f p ys ∧ Chg (InB f) w w',
        ⟨_, k, 1, c, Nat.le_refl _, by omega, rfl, rfl, rfl, by rw [up, hF], by omega, fun _ _ _ => rfl, O, o⟩, ?_⟩
      rintro m _ t ⟨kk, d, ys, S, T, rfl, rfl, hyl, hyt, hkk, hyr, O, o⟩
      dsimp only
      simp only [Int.toNat_natCast, acc_size]
      refine qa2 (fun h => ?_) fun h => ?_
      · have s : k + d < c.length := by simp at h; omega
        have K : IntKind.wrap .i64 ((d : Int) - 1) = ((d - 1 : Nat) : Int) := by rw [w64 (by omega) (by omega)]; omega
        rw [K]
        have OD := O.drop (l := k) (by omega)
        have dl : (ys.drop k).length = c.length - k := by rw [List.length_drop, hyl]
        have rdD : ∀ j : Nat, k + j < c.length → rd (ys.drop k) (j : Int) = rd ys ((k + j : Nat) : Int) := fun j hj => by
          rw [qcV (by omega), qcV (by omega), List.getElem_drop]
        obtain ⟨a, ha, hat⟩ := Row.at OD.row (i := (d : Int)) (by omega) (by omega)
        obtain ⟨b, hb, hbt⟩ := Row.at OD.row (i := ((d - 1 : Nat) : Int)) (by omega) (by omega)
        rw [rdD d s, hyr (k + d) (by omega) s] at hat
        rw [rdD (d - 1) (by omega), hyr (k + (d - 1)) (by omega) (by omega), show k + (d - 1) = k + d - 1 by omega] at hbt
        refine ⟨by omega, by omega, a, ha, _, hat 0 _ rfl, _, hat 1 _ rfl, _, hat 2 _ rfl, _, hat 3 _ rfl, by omega, by omega, b, hb, _, hbt 0 _ rfl, _, hbt 1 _ rfl, _, hbt 2 _ rfl, _, hbt 3 _ rfl, ?_⟩
        refine ⟨_, qpA _ _, ?_⟩
        have up := qkD (l := c) (k := k + d) (by omega) s
        have O := O.ext (Ext.drew t)
        have o := o.then (Ext.drew t)
        have hat : ∀ j v, ((el63).enc (rd c ((k + d : Nat) : Int)))[j]? = some v → t.drew.cell? ((a.add ((d : Int).toNat * 4)).add j) = some v := fun j v hj => Ext.cell (Ext.drew t) (hat j v hj)
        refine qa2 (fun e => ?_) fun e => ?_
        · have e : ¬ rd c ((k + d : Nat) : Int) = rd c ((k + d - 1 : Nat) : Int) := by simpa using e
          rw [if_neg e] at up
          refine ⟨by omega, by omega, a, ha, _, hat 0 _ rfl, _, hat 1 _ rfl, _, hat 2 _ rfl, _, hat 3 _ rfl, ?_⟩
          obtain ⟨L, y, _⟩ := Row.at O.row (i := (kk : Int)) (by omega) (by omega)
          refine ⟨by omega, by omega, L, y, ?_⟩
          have st := Own.storeAt O y (i := (kk : Int)) (by omega) (by omega) 0 [(.int .i64 (rd c ((k + d : Nat) : Int)).Phase), (.int .i64 (rd c ((k + d : Nat) : Int)).Warp), (.int .i64 (rd c ((k + d : Nat) : Int)).Address), (.int .i64 (rd c ((k + d : Nat) : Int)).Kind)] (rd c ((k + d : Nat) : Int)) rfl (Nat.le_of_ble_eq_true rfl) rfl
            (k := fun u => ∃ m', m' < c.length - k - d ∧ ∃ (kk' k2' : Nat) (ys : List D.Access), 1 ≤ k2' ∧ k + k2' ≤ c.length ∧ m' = c.length - k - k2' ∧ ((IntKind.wrap .i64 ((kk : Int) + 1), IntKind.wrap .i64 ((d : Int) + 1), ()) : Int × Int × Unit) = ((kk' : Int), (k2' : Int), ()) ∧ ys.length = c.length ∧ ys.take kk' = M.qei (c.take (k + k2')) ∧ kk' < k + k2' ∧ (∀ i : Nat, k + k2' ≤ i + 1 → i < c.length → rd ys (i : Int) = rd c (i : Int)) ∧ Own el63 u 0 f p ys ∧ Chg (InB f) w u) fun u A B _ => ?_
          · rw [qgC] at st; exact st
          · refine ⟨_, by omega, kk + 1, d + 1, _, by omega, by omega, rfl, by rw [up64 (k := kk) (n := c.length) (by omega) (by omega), up64 (k := d) (n := c.length) (by omega) (by omega)], by rw [List.length_set]; exact hyl, ?_, by omega, fun i N C => ?_, A, o.chgb B (Or.inr ⟨_, y, rfl⟩)⟩
            · rw [Int.toNat_natCast, show k + (d + 1) = k + d + 1 by omega, up, ← hyt, List.take_add_one, List.take_set_of_le (Nat.le_refl _)]
              simp [show kk < ys.length by omega]
            · rw [Int.toNat_natCast, ← hyr i (by omega) C, qcV (xs := ys.set kk _) (by rw [List.length_set]; omega), qcV (xs := ys) (by omega), List.getElem_set_ne (by omega)]
        · have e : rd c ((k + d : Nat) : Int) = rd c ((k + d - 1 : Nat) : Int) := by simpa using e
          rw [if_pos e] at up
          refine ⟨_, by omega, kk, d + 1, ys, by omega, by omega, rfl, by rw [up64 (k := d) (n := c.length) (by omega) (by omega)], hyl, ?_, by omega, fun i N C => hyr i (by omega) C, O, o⟩
          rw [show k + (d + 1) = k + d + 1 by omega, up]; exact hyt
      · have s : k + d = c.length := by simp at h; omega
        refine ⟨by omega, by omega, ?_⟩
        rw [s, List.take_length, ← q] at hyt
        have le := O.le
        refine qlf qoV O (l := kk) (by omega) (by omega) fun u A B => ?_
        refine ⟨by omega, by omega, f, p, ?_, ?_, Mov.same _ _, o.app B fun g P => Or.inr P⟩
        · rw [← hyt, List.length_take]; congr 1; omega
        · have := A.take kk
          rw [List.take_append_of_le_length (by rw [List.length_take]; omega), List.take_take, Nat.min_self, hyt] at this
          exact this
    · have e : ¬ rd c (k : Int) = rd c ((k - 1 : Nat) : Int) := by simpa using e
      rw [if_neg e] at up
      rw [up64 hk (by omega)]
      refine ⟨_, by omega, k + 1, by omega, by omega, rfl, rfl, ?_, O, o⟩
      rw [up, hF, qcV hk]; simp
  · have hk : k = c.length := by simp at h; omega
    subst hk
    rw [List.take_length] at hF
    rw [q, hF]
    exact ⟨f, p, rfl, O, Mov.same _ _, o⟩
def qb0.vc (Y : OA) (Z a0 : Nat) (a1 : OA) (a2 a3 : Nat) (a4 : OA) (a5 a6 : Nat) (a7 a8 c : Int) (w : World) (K : VK) : Prop :=
  newK w (.cells (vB Y Z a0 a1 a2 a3 a4 a5 a6 a7 a8) 33) fun k x => ldB x (bx k) fun a9 aa ab ac ad ae af ag ah ai aj => Cl 68 #[(.agg (vB a9 aa ab ac ad ae af ag ah ai aj)), (iv c)] x fun ak al => (∃ am : Value, (∃ (m : Int), True ∧ ∃ (n : Int), True ∧ ∃ (o : Int), True ∧ ∃ (p : Int), True ∧ am = (.agg #[(iv m), (iv n), (iv o), (iv p)]) ∧ ∃ an : Value, (∃ (y : Bool), an = (.bool y) ∧ ak = (.tuple #[(.agg #[(iv m), (iv n), (iv o), (iv p)]), (.bool y)]) ∧ newK al (.cells #[(iv 0), (iv 0), (iv 0), (iv 0)] 84) fun e ao => qa5 (bx e) [(iv m), (iv n), (iv o), (iv p)] 0 ao fun ap => Run Tryz.prog (Instr.buildSlice 28 0 #[]) ap fun aq f => ∃ (z : OA) (A B : Nat), aq = .slice z A B ∧ ldS f (((bx k).add 1).add 0) fun ar au bm => (idx c au ar fun q => ldI f ((q.add ((c.toNat) * 3)).add 0) fun av => ldS f ((q.add ((c.toNat) * 3)).add 1) fun aw ax ay => ldS f ((q.add ((c.toNat) * 3)).add 2) fun az aA aB => Cl 106 #[(.agg #[(iv av), (sv aw ax ay), (sv az aA aB)])] f fun aC aD => (∃ (C : Int), aC = (iv C) ∧ Cl 105 #[(iv C)] aD fun aE aF => (∃ (D : OA) (r aG : Nat), aE = (sv D r aG) ∧ qdh (σ := (OA × Nat × Nat) × Int × Unit) (fun a g E => qa1 (decide (a.2.1 < ((r : Nat) : Int))) ((idx a.2.1 r D fun aH => ldI g ((aH.add ((a.2.1.toNat) * 1)).add 0) fun aI => ldI g (((bx k).add 4).add 0) fun aJ => ldI g (((bx e).add 0).add 0) fun aK => newK g (.cells #[(iv 0), (iv 0), (iv 0), (iv 0)] 63) fun b aL => qa5 (bx b) [(iv aJ), (iv c), (iv 0), (iv aK)] 0 aL fun h => ldS h (((bx k).add 1).add 0) fun aM aN bn => (idx c aN aM fun s => ldI h ((s.add ((c.toNat) * 3)).add 0) fun aO => ldS h ((s.add ((c.toNat) * 3)).add 1) fun aP aQ aR => ldS h ((s.add ((c.toNat) * 3)).add 2) fun aS aT aU => Cl 107 #[(.agg #[(iv aO), (sv aP aQ aR), (sv aS aT aU)]), (iv aI)] h fun aV d => (∃ (t : OA) (u aW : Nat), aV = (sv t u aW) ∧ ldI d (((bx e).add 0).add 0) fun v => qa1 (v == 13) (ldI d (((bx e).add 2).add 0) fun F => (idx F u t fun aX => ldI d ((aX.add ((F.toNat) * 1)).add 0) fun aY => ((32 : Int) ≠ 0 ∧ qa5 ((bx b).add 2) [(iv (Int.tmod aY 32))] 0 d fun i => ldI i ((bx b).add 0) fun aZ => ldI i ((bx b).add 1) fun b0 => ldI i ((bx b).add 2) fun b1 => ldI i ((bx b).add 3) fun b2 => Run Tryz.prog (Instr.buildSlice 28 1 #[(0, (.agg #[(iv aZ), (iv b0), (iv b1), (iv b2)]))]) i fun b3 b4 => ∃ (G : OA) (H I : Nat), b3 = .slice G H I ∧ Run Tryz.prog (Builtin.append_ #[28, 28] 28 #[(sv a.1.1 a.1.2.1 a.1.2.2), (sv G H I)]) b4 fun b5 b6 => ∃ (J : OA) (L M : Nat), b5 = .slice J L M ∧ E ((J, L, M), (wrap .i64 (a.2.1 + 1)), ()) b6))) (qfo (σ := Bool × Unit) (fun N => qa1 (v == 14) (N (true, ()) d) (N ((v == 15), ()) d)) fun b7 l => qa1 b7.1 (ldI l (((bx e).add 1).add 0) fun O => (idx O u t fun b8 => ldI l ((b8.add ((O.toNat) * 1)).add 0) fun b9 => ((32 : Int) ≠ 0 ∧ qa5 ((bx b).add 2) [(iv (Int.tmod b9 32))] 0 l fun j => ldI j ((bx b).add 0) fun ba => ldI j ((bx b).add 1) fun bb => ldI j ((bx b).add 2) fun bc => ldI j ((bx b).add 3) fun bd => Run Tryz.prog (Instr.buildSlice 28 1 #[(0, (.agg #[(iv ba), (iv bb), (iv bc), (iv bd)]))]) j fun be bf => ∃ (P : OA) (Q R : Nat), be = .slice P Q R ∧ Run Tryz.prog (Builtin.append_ #[28, 28] 28 #[(sv a.1.1 a.1.2.1 a.1.2.2), (sv P Q R)]) bf fun bg bh => ∃ (S : OA) (T U : Nat), bg = .slice S T U ∧ E ((S, T, U), (wrap .i64 (a.2.1 + 1)), ()) bh))) (K (sv a.1.1 a.1.2.1 a.1.2.2) l)))))) (Cl 108 #[(sv a.1.1 a.1.2.1 a.1.2.2), (.func (.func 109) #[] #[])] g fun bi bj => (bi = (.tuple #[]) ∧ Cl 111 #[(sv a.1.1 a.1.2.1 a.1.2.2)] bj fun bk bl => (∃ (V : OA) (W X : Nat), bk = (sv V W X) ∧ K (sv V W X) bl)))) ((z, A, B), 0, ()) aF))))))

def qb0.ann : Ann := (.seq .l (.seq .l (.seq .l (.seq (.seq .l (.one (.loop [(7, .sl), (27, .int .i64)] (.seq .l (.seq (.two .l .l) (.seq (.one (.seq .l (.seq .l (.seq .l (.seq (.seq .l (.one (.seq .l (.two .l (.cut [(56, .bool)] (.seq .l (.two .l .l)) (.two .l (.seq .l .l))))))) .l))))) .l)))))) (.seq .l (.seq .l .l))))))

theorem qb0.con {e : D.Block} {u v x : OA} {y z E : Nat} {n : Int} {r : List D.Access} {w : World} (hp : M.qex e n) (hr : r = M.qb0 e n) (av : Row el84 w u e.Code) (aw : e.Code.length ≤ y) (U : RowW 52 el91 el3 w v e.Warps) (ax : e.Warps.length ≤ z) (ay : Row el3 w x e.Memory) (az : e.Memory.length ≤ E) :
    Cl 50 #[(.agg (bC u y v z x E e)), (iv n)] w (fun v_ p => ∃ (a3 : OA) (a4 : Nat), v_ = (sv a3 r.length a4) ∧ Own el63 p w.heap.size a3 a4 r ∧ Ext w p) := by
 have H := wp.qb0.math e n hp
 refine begK mixed Tryz.f50 ann (vc u e.Code.length y v e.Warps.length z x e.Memory.length E e.Waiting e.Phase n) ?_
 unfold vc
 unfold wp.qb0 at H
 refine qaL (fun a5 bM L4 c aA => ?_)
 have b := qa6 (Ext.refl w) aA
 refine ⟨_, _, _, (c.a 0), _, _, _, (c.a 1), _, _, _, (c.a 2), _, (c.a 3), _, (c.a 4), ?_⟩
 obtain ⟨aB, H⟩ := H
 obtain ⟨i, aC, H⟩ := qaa H
 refine (qaC.con aB aC (av.ext b) aw (U.ext b) ax (ay.ext b) az).mono ?_
 rintro _ bN ⟨rfl, a6⟩
 refine ⟨(.agg (iC i.1)), i.1.Op, trivial, i.1.A, trivial, i.1.B, trivial, i.1.C, trivial, rfl, (.bool i.2), i.2, rfl, rfl, ?_⟩
 refine qid (iC i.1) (fun a7 bO L5 f a8 => ?_)
 have b := qa6 (qa6 b a6) a8
 refine qaz el63 ([] : List D.Access) (fun _ => by kernel_rfl) rfl (fun aD bP P6 V => ?_)
 have c := ((c.ext a6).ext a8).ext V
 have W := P6.mono b.size
 have b := qa6 b V
 refine ⟨_, _, _, (c.a 1), ?_⟩
 obtain ⟨⟨a9, aa⟩, H⟩ := H
 obtain ⟨aE, aF, bQ, bR, bS, bT, aG, aH, aI, aJ, aK, aL, aM⟩ := RowW.at U a9 aa
 refine ⟨a9, aa, aE, aF, _, (Ext.cell b aG), _, _, _, (Ext.cell b aH), _, _, _, (Ext.cell b aI), ?_⟩
 obtain ⟨aN, H⟩ := H
 obtain ⟨aO, aP, H⟩ := qaa H
 refine (cllA (qbg.con aN aP (aJ.ext b) aK (aL.ext b) aM)).mono ?_
 rintro _ bU ⟨rfl, P⟩
 have b := qa6 b P
 refine ⟨aO, rfl, ?_⟩
 obtain ⟨j, aQ, H⟩ := qaa H
 refine (qc8.con aQ ).mono ?_
 rintro _ bV ⟨X, Y, rfl, P9, Q⟩
 have c := (c.ext P).ext Q
 have f := ((f.ext V).ext P).ext Q
 have W := (W.ext P).ext Q
 have g := P9.mono b.size
 have b := qa6 b Q
 refine ⟨X, j.length, Y, rfl, ?_⟩
 obtain ⟨aR, ⟨aS, aT⟩, ab⟩ := H
 refine ⟨fun m_ Z p => ∃ (F : List D.Access) (k : Int) (G : OA) (I : Nat), Z = ((G, F.length, I), k, ()) ∧ aR m_ (F, k, ()) ∧ Ext w p ∧ Own el63 p w.heap.size G I F ∧ Blk p a5 33 (bC u y v z x E e) ∧ Blk p a7 84 (iC i.1) ∧ Own el3 p w.heap.size X Y j, ⟨aS, ([] : List D.Access), 0, aD, 0, rfl, aT, b, W, c, f, g⟩, ?_⟩
 rintro aU _ bW ⟨F, k, G, I, rfl, ac, b, d, c, f, g⟩
 have H := ab aU _ ac
 clear ab ac
 try dsimp only at H ⊢
 apply brc H<;>intro h H
 ·obtain ⟨⟨ad, ae⟩, H⟩ := H
  obtain ⟨aV, aW, aX⟩ := Row.at g.row ad ae
  refine ⟨ad, ae, aV, aW, _, (aX 0 _ rfl), _, (c.a 4), _, (f.a 0), ?_⟩
  refine qid #[(iv e.Phase), (iv n), (iv 0), (iv i.1.Op)] (fun aY bX s aZ J => ?_)
  have af := c.ne s
  have ag := f.ne s
  have ah := g.qaD s
  have ai := d.qaD s
  have c := c.ext J
  have s := Nat.le_trans b.size s
  have b := qa6 b J
  refine ⟨_, _, _, (c.a 1), ?_⟩
  obtain ⟨⟨aj, ak⟩, H⟩ := H
  obtain ⟨b0, b1, bY, bZ, b2, R, b3, b4, b5, b6, b7, al, a0⟩ := RowW.at U aj ak
  refine ⟨aj, ak, b0, b1, _, (Ext.cell b b3), _, _, _, (Ext.cell b b4), _, _, _, (Ext.cell b b5), ?_⟩
  obtain ⟨b8, H⟩ := H
  refine (cllA (qbr.con b8 (b6.ext b) b7 (al.ext b) a0)).mono ?_
  rintro _ c0 ⟨rfl, t⟩
  have c := c.ext t
  have f := (f.ext J).ext t
  have g := (g.ext J).ext t
  have d := (d.ext J).ext t
  have q := aZ.ext t
  have b := qa6 b t
  have am := (al.take ((wrap .i64 ((wrap .i64 ((rd j k) + 1)) * 4)).toNat)).drop (l := ((wrap .i64 ((rd j k) * 4)).toNat)) (m := R) (by have := a0; simp; omega)
  have c1 : (List.drop ((wrap .i64 ((rd j k) * 4)).toNat) (List.take ((wrap .i64 ((wrap .i64 ((rd j k) + 1)) * 4)).toNat) ((rd e.Warps n).Regs))).length ≤ (R - ((wrap .i64 ((rd j k) * 4)).toNat)) := by have := a0; simp; omega
  refine ⟨(cutA R ((wrap .i64 ((rd j k) * 4)).toNat) b2 1), (List.drop ((wrap .i64 ((rd j k) * 4)).toNat) (List.take ((wrap .i64 ((wrap .i64 ((rd j k) + 1)) * 4)).toNat) ((rd e.Warps n).Regs))).length, (R - ((wrap .i64 ((rd j k) * 4)).toNat)), rfl, _, (f.a 0), ?_⟩
  apply brc H<;>intro h H
  ·refine ⟨_, (f.a 2), ?_⟩
   obtain ⟨⟨an, ao⟩, H⟩ := H
   obtain ⟨b9, ba, bb⟩ := Row.at (am.ext b) an ao
   refine ⟨an, ao, b9, ba, _, (bb 0 _ rfl), by decide, ?_⟩
   refine qda q (o := 2) (cs' := #[(iv e.Phase), (iv n), (iv (Int.tmod (rd (List.drop ((wrap .i64 ((rd j k) * 4)).toNat) (List.take ((wrap .i64 ((wrap .i64 ((rd j k) + 1)) * 4)).toNat) ((rd e.Warps n).Regs))) i.1.B) 32)), (iv i.1.Op)]) rfl rfl (Nat.le_of_ble_eq_true rfl) rfl (fun c2 q K => ?_)
   have b := echg b K s
   refine ⟨_, (q.a 0), _, (q.a 1), _, (q.a 2), _, (q.a 3), ?_⟩
   refine qaz el63 ([(⟨e.Phase, n, (Int.tmod (rd (List.drop ((wrap .i64 ((rd j k) * 4)).toNat) (List.take ((wrap .i64 ((wrap .i64 ((rd j k) + 1)) * 4)).toNat) ((rd e.Warps n).Regs))) i.1.B) 32), i.1.Op⟩ : D.Access)] : List D.Access) (fun _ => by kernel_rfl) rfl (fun c3 c4 bc L => ?_)
   have c := (c.chg K af).ext L
   have f := (f.chg K ag).ext L
   have g := (g.chg K ah).ext L
   have d := (d.chg K ai).ext L
   have bd := bc.mono b.size
   have b := qa6 b L
   obtain ⟨be, H⟩ := H
   refine appO qng d bd.row b.size be (fun bf bg c5 a1 S => ?_)
   have c := c.app S (d.qa3 c (by decide))
   have f := f.app S (d.qa3 f (by decide))
   have g := g.app S (Own.qai g d (by decide))
   have b := eapp b S d
   have d := a1
   obtain ⟨bh, bi, bj⟩ := H
   exact ⟨bh, bi, _, _, bf, bg, rfl, bj, b, d, c, f, g⟩
  obtain ⟨bk, bl, H⟩ := qd9 H
  refine ⟨fun Z p => ∃ (a2 : Bool), Z = (a2, ()) ∧ bk (a2, ()) ∧ Ext w p ∧ Blk p a5 33 (bC u y v z x E e) ∧ Blk p a7 84 (iC i.1) ∧ Own el3 p w.heap.size X Y j ∧ Own el63 p w.heap.size G I F ∧ Blk p aY 63 #[(iv e.Phase), (iv n), (iv 0), (iv i.1.Op)], ?_, ?_⟩
  ·apply brc H<;>intro h H
   ·exact ⟨true, rfl, H, b, c, f, g, d, q⟩
   exact ⟨_, rfl, H, b, c, f, g, d, q⟩
  rintro _ c6 ⟨a2, rfl, H, b, c, f, g, d, q⟩
  have H := bl _ H
  try dsimp only at H ⊢
  apply brc H<;>intro h H
  ·refine ⟨_, (f.a 1), ?_⟩
   obtain ⟨⟨ap, aq⟩, H⟩ := H
   obtain ⟨bm, bn, bo⟩ := Row.at (am.ext b) ap aq
   refine ⟨ap, aq, bm, bn, _, (bo 0 _ rfl), by decide, ?_⟩
   refine qda q (o := 2) (cs' := #[(iv e.Phase), (iv n), (iv (Int.tmod (rd (List.drop ((wrap .i64 ((rd j k) * 4)).toNat) (List.take ((wrap .i64 ((wrap .i64 ((rd j k) + 1)) * 4)).toNat) ((rd e.Warps n).Regs))) i.1.A) 32)), (iv i.1.Op)]) rfl rfl (Nat.le_of_ble_eq_true rfl) rfl (fun c7 q N => ?_)
   have b := echg b N s
   refine ⟨_, (q.a 0), _, (q.a 1), _, (q.a 2), _, (q.a 3), ?_⟩
   refine qaz el63 ([(⟨e.Phase, n, (Int.tmod (rd (List.drop ((wrap .i64 ((rd j k) * 4)).toNat) (List.take ((wrap .i64 ((wrap .i64 ((rd j k) + 1)) * 4)).toNat) ((rd e.Warps n).Regs))) i.1.A) 32), i.1.Op⟩ : D.Access)] : List D.Access) (fun _ => by kernel_rfl) rfl (fun c8 c9 bp O => ?_)
   have c := (c.chg N af).ext O
   have f := (f.chg N ag).ext O
   have g := (g.chg N ah).ext O
   have d := (d.chg N ai).ext O
   have bq := bp.mono b.size
   have b := qa6 b O
   obtain ⟨br, H⟩ := H
   refine appO qng d bq.row b.size br (fun bs bt ca a1 T => ?_)
   have c := c.app T (d.qa3 c (by decide))
   have f := f.app T (d.qa3 f (by decide))
   have g := g.app T (Own.qai g d (by decide))
   have b := eapp b T d
   have d := a1
   obtain ⟨bu, bv, bw⟩ := H
   exact ⟨bu, bv, _, _, bs, bt, rfl, bw, b, d, c, f, g⟩
  cases hr.trans H.symm
  exact ⟨G, I, rfl, d, b⟩
 obtain ⟨bx, H⟩ := H
 obtain ⟨cb, bz, H⟩ := qaa H
 refine (qa7.con bx bz (d.mono (Nat.zero_le _)) (fun cc cd h_ p e_ => qii (l1 := [_, _]) (l2 := []) (qaF.con h_ rfl))).mono ?_
 rintro _ ce ⟨rfl, bA, bB, bD⟩
 have b := Chg.ext b bD d.low
 have d := bA.up d
 refine ⟨rfl, ?_⟩
 obtain ⟨bE, H⟩ := H
 obtain ⟨bF, bG, H⟩ := qaa H
 refine (qhl (by first | (simp only [bC, wC, List.length_set, bB]; done) | (simp; done)) (qae.con bE bG (d.mono (Nat.zero_le _)))).mono ?_
 rintro _ cf ⟨ar, au, rfl, bH, bI, bJ⟩
 have bK := bI.low d.low b.size
 have b := Chg.ext b bJ d.low
 have bL := bH.lift bK
 refine ⟨ar, bF.length, au, rfl, ?_⟩
 cases hr.trans H.symm
 exact ⟨ar, au, rfl, bL, b⟩
def qcf.vc (l : Int) (c b : Addr) (w : World) (K : VK) : Prop :=
  (∃ a : Nat → Prop, ldSM a w c 0 fun m n o => ldSM a w b 0 fun p q r => ldSM a w b 1 fun s t u => ldSM a w b 2 fun v x y => ldIM a w b 3 fun z => ldIM a w b 4 fun A => Cl 50 #[(.agg (vB p q r s t u v x y z A)), (iv l)] w.drew fun B d => (∃ (e : OA) (f g : Nat), B = (sv e f g) ∧ qab a w d ∧ Run Tryz.prog (Builtin.append_ #[28, 28] 28 #[(sv m n o), (sv e f g)]) d fun C h => ∃ (i : OA) (j k : Nat), C = .slice i j k ∧ qab a w h ∧ qa5 c [(sv i j k)] 0 h fun D => K (.tuple #[]) D))

def qcf.ann : Ann := .l

theorem qcf.con {s : Int} {m : List D.Access} {e : D.Block} {f E i F G I : Nat} {b A J B : OA} {r : (List D.Access)} {w : World} (R : M.qf7 s m e) (S : r = M.qcf s m e) (d : Blk w f 28 #[(sv b m.length E)]) (n : Own el63 w 0 b E m) (t : Blk w i 33 (bC A F J G B I e)) (T : Row el84 w A e.Code) (U : e.Code.length ≤ F) (V : ∀ p, Chg (fun c => InB b c ∨ c = f) w p → RowW 52 el91 el3 p J e.Warps) (W : e.Warps.length ≤ G) (X : Row el3 w B e.Memory) (Y : e.Memory.length ≤ I) (u : ¬ (fun c => InB b c ∨ c = f) i) (Z : e.Code ≠ [] → ∀ g, InB A g → ¬ (fun c => InB b c ∨ c = f) g) (a0 : e.Memory ≠ [] → ∀ g, InB B g → ¬ (fun c => InB b c ∨ c = f) g) :
    Cl 95 #[(iv s), (.pointer (some (bx f))), (.pointer (some (bx i)))] w (fun v_ p => ∃ (C : OA) (K : Nat), v_ = (.tuple #[]) ∧ Blk p f 28 #[(sv C r.length K)] ∧ Own el63 p 0 C K r ∧ Mov w b C ∧ Chg (fun c => InB b c ∨ c = f) w p) := by
 have H := wp.qcf.math s m e R
 refine begK mixed Tryz.f95 ann (vc s (bx f) (bx i)) ?_
 unfold vc
 unfold wp.qcf at H
 refine ⟨(InB b), _, _, _, ⟨(qfb ((n.qa3 d (by decide))).inb (by first | rfl | (simp only [qcT]))), (d.a 0)⟩, _, _, _, ⟨(qfb ((show Apart b i from fun j k l => u (Or.inl ⟨j, k, l⟩))).inb (by first | rfl | (simp only [qcT]))), (t.a 0)⟩, _, _, _, ⟨(qfb ((show Apart b i from fun j k l => u (Or.inl ⟨j, k, l⟩))).inb (by first | rfl | (simp only [qcT]))), (t.a 1)⟩, _, _, _, ⟨(qfb ((show Apart b i from fun j k l => u (Or.inl ⟨j, k, l⟩))).inb (by first | rfl | (simp only [qcT]))), (t.a 2)⟩, _, ⟨(qfb ((show Apart b i from fun j k l => u (Or.inl ⟨j, k, l⟩))).inb (by first | rfl | (simp only [qcT]))), (t.a 3)⟩, ?_⟩
 refine ⟨_, ⟨(qfb ((show Apart b i from fun j k l => u (Or.inl ⟨j, k, l⟩))).inb (by first | rfl | (simp only [qcT]))), (t.a 4)⟩, ?_⟩
 have d := d.ext (Ext.drew _)
 have n := n.ext (Ext.drew _)
 have h := (Chg.refl (fun c => InB b c ∨ c = f) w).then (Ext.drew _)
 have q := (Chg.refl (InB b) w).then (Ext.drew _)
 obtain ⟨a1, H⟩ := H
 obtain ⟨L, a2, H⟩ := qaa H
 refine (qb0.con a1 a2 (T.chgS h Z) U (V _ h) W (X.chgS h a0) Y).mono ?_
 rintro _ aa ⟨a3, a4, rfl, P9, z⟩
 have d := d.ext z
 have n := n.ext z
 have O9 := P9.mono h.size
 have h := h.then z
 have q := q.then z
 refine ⟨a3, L.length, a4, rfl, qaw q, ?_⟩
 have v := n
 have N := Mov.same w b
 obtain ⟨a5, H⟩ := H
 refine qgW qng qng.under v O9.row (Nat.zero_le _) rfl rfl a5 (fun O P ab a6 x => ?_)
 have a7 := Apart.app (v.qa3 d (by decide)) x d.lt
 have d := d.app x (v.qa3 d (by decide))
 have q := q.app x (fun g y => (Or.inr y))
 have a8 := h.size
 have a9 := Mov.trans N x.blk a8
 refine ⟨qaw q, ?_⟩
 refine qda d (o := 0) (cs' := #[(sv O (((m ++ L)).length) P)]) rfl rfl (Nat.le_of_ble_eq_true rfl) rfl (fun ac d Q => ?_)
 have v := a6.chg Q a7
 have h := (h.app x (fun g y => (qgK N y (fun y => (Or.inl y))))).chgb Q (Or.inr (Or.inr rfl))
 cases S.trans H.symm
 exact ⟨O, P, rfl, d, (v.mono (Nat.zero_le _)), a9, h⟩
def qaI.vc (b : Addr) (h : Nat) (i : Array Value) (j : Nat) (k : Array Value) (w : World) (K : VK) : Prop :=
  qdh (σ := Int × Unit) (fun c l m => Cl h (#[(iv c.1)] ++ i) l fun n a => (∃ o : Value, (∃ (d : Int), o = (iv d) ∧ ∃ p : Value, (∃ (f : Bool), p = (.bool f) ∧ n = (.tuple #[(iv d), (.bool f)]) ∧ qa1 (!f) (K (iv c.1) a) (qa1 (decide (d < 0)) (K (iv c.1) a) (ldI a ((b.add 4).add 0) fun q => qa1 (q == 100000) (K (iv c.1) a) (ldS a (b.add 0) fun r s t => ldS a (b.add 1) fun u v x => ldS a (b.add 2) fun y z A => ldI a (b.add 3) fun B => ldI a (b.add 4) fun C => Cl 81 #[(.agg (vB r s t u v x y z A B C)), (iv d)] a fun D g => (∃ (e : Int), D = (iv e) ∧ qa1 (decide (e < 0)) (K (iv c.1) g) (Cl j (#[(iv e)] ++ k) g fun E F => (E = (.tuple #[]) ∧ Cl 70 #[(.pointer (some b)), (iv e)] F fun G H => (∃ (I : Bool), G = (.bool I) ∧ m ((wrap .i64 (c.1 + 1)), ()) H))))))))))) (0, ()) w

def qaI.ann : Ann := (.seq .l (.seq .l (.one (.loop [(7, .int .i64)] (.seq (.one (.seq .l (.seq (.seq .l (.two (.seq .l .l) .l)) (.seq .l (.seq (.seq .l (.two (.seq .l .l) .l)) (.seq .l .l)))))) .l)))))

theorem qaI.start {p0 : Addr} {f1 : Nat} {cap1 : Array Value} {f2 : Nat} {cap2 : Array Value} {w : World} {K : Value → World → Prop} (h : qaI.vc p0 f1 cap1 f2 cap2 w K) : Cl 82 #[(.pointer (some p0)), (.func (.func f1) #[] cap1), (.func (.func f2) #[] cap2)] w K :=
  qdM mixed (fn := Tryz.f82) (by kernel_rfl) (by kernel_rfl) (an := qaI.ann) (args := [(.pointer (some p0)), (.func (.func f1) #[] cap1), (.func (.func f2) #[] cap2)]) (Eq.mpr (by kernel_rfl) h)

theorem qaI.con {l : D.Block} {P : Int} {K : List D.Access} {s U a3 L N u c2c0_0 : Nat} {Q q o A2c0_0 : OA} {t : Nat → Prop} {r : Int × D.Block × (List D.Access)} {w : World} (hp : M.qe5 l P K) (W : r = M.qaI l P K) (e : Blk w s 33 (bC Q U q a3 o L l)) (R : Row el84 w Q l.Code) (a4 : l.Code.length ≤ U) (O3 : OwnW 52 el91 el3 w 0 t q a3 l.Warps) (f : Own el3 w 0 o L l.Memory) (p : Blk w N 3 #[(iv P)]) (i : Blk w u 28 #[(sv A2c0_0 K.length c2c0_0)]) (O7 : Own el63 w 0 A2c0_0 c2c0_0 K) (al : Dis (InW q t) (InB o)) (a5 : s ≠ u) (X : ¬ (fun d => InW q t d ∨ InB o d ∨ d = s ∨ InB A2c0_0 d ∨ d = u) N) (z : l.Code ≠ [] → ∀ g, InB Q g → ¬ (fun d => InW q t d ∨ InB o d ∨ d = s ∨ InB A2c0_0 d ∨ d = u) g) :
    Cl 82 #[(.pointer (some (bx s))), (.func (.func 145) #[] #[(.pointer (some (bx N)))]), (.func (.func 95) #[] #[(.pointer (some (bx u))), (.pointer (some (bx s)))])] w (fun v_ n => ∃ (a6 : OA) (ad : Nat) (ae : Nat → Prop) (a7 : OA) (af : Nat), v_ = (iv r.1) ∧ Blk n s 33 #[(sv Q r.2.1.Code.length U), (sv a6 r.2.1.Warps.length ad), (sv o l.Memory.length L), (iv r.2.1.Waiting), (iv r.2.1.Phase)] ∧ r.2.1.Code = l.Code ∧ OwnW 52 el91 el3 n 0 ae a6 ad r.2.1.Warps ∧ MovW w (InW q t) (InW a6 ae) ∧ Own el3 n 0 o L r.2.1.Memory ∧ r.2.1.Memory.length = l.Memory.length ∧ Blk n u 28 #[(sv a7 r.2.2.length af)] ∧ Own el63 n 0 a7 af r.2.2 ∧ Mov w A2c0_0 a7 ∧ Chg (fun d => InW q t d ∨ InB o d ∨ d = s ∨ InB A2c0_0 d ∨ d = u) w n) := by
 have H := wp.qaI.math l P K hp
 have k := Chg.refl (fun d => InW q t d ∨ InB o d ∨ d = s ∨ InB A2c0_0 d ∨ d = u) w
 refine qaI.start ?_
 unfold vc
 unfold wp.qaI at H
 have am := MovW.refl w (InW q t)
 obtain ⟨an, ⟨ao, ap⟩, ag⟩ := H
 refine ⟨fun m_ z_ n => ∃ (a8 : Int) (Y : List D.Warp) (a9 aa : Int) (Z : List D.Access) (a0 : List Int) (v : OA) (C : Nat) (x : Nat → Prop) (A : OA) (E : Nat), z_ = (a8, ()) ∧ an m_ (a8, Y, a9, aa, Z, a0, ()) ∧ Chg (fun d => InW q t d ∨ InB o d ∨ d = s ∨ InB A2c0_0 d ∨ d = u) w n ∧ Blk n s 33 #[(sv Q l.Code.length U), (sv v Y.length C), (sv o l.Memory.length L), (iv a9), (iv aa)] ∧ OwnW 52 el91 el3 n 0 x v C Y ∧ MovW w (InW q t) (InW v x) ∧ Blk n u 28 #[(sv A Z.length E)] ∧ Own el63 n 0 A E Z ∧ Mov w A2c0_0 A ∧ Own el3 n 0 o L a0 ∧ l.Memory.length = a0.length ∧ Blk n N 3 #[(iv P)] ∧ Dis (InW v x) (InB o) ∧ ¬ InW v x N, ⟨ao, 0, l.Warps, l.Waiting, l.Phase, K, l.Memory, q, a3, t, A2c0_0, c2c0_0, rfl, ap, k, e, O3, am, i, O7, (Mov.same _ _), f, (by first | rfl | assumption | omega | (simp; done) | (simp; omega) | (simp; assumption)), p, al, (fun b => X (Or.inl b))⟩, ?_⟩
 rintro aq _ aW ⟨a8, Y, a9, aa, Z, a0, v, C, x, A, E, rfl, ah, k, e, j, F, i, m, G, f, y, p, ai, aj⟩
 have H := ag aq _ ah
 clear ag ah
 try dsimp only at H ⊢
 obtain ⟨a1, ar, H⟩ := qaa H
 refine (qii (l1 := [_]) (l2 := [_]) (qaK.con ar p)).mono ?_
 rintro _ aX ⟨rfl, I⟩
 have e := e.ext I
 have f := f.ext I
 have p := p.ext I
 have i := i.ext I
 have j := j.ext I
 have m := m.ext I
 have k := k.then I
 refine ⟨(iv a1.1), a1.1, rfl, (.bool a1.2), a1.2, rfl, rfl, ?_⟩
 apply brc H<;>intro h H
 ·cases W.trans H.symm
  exact ⟨v, C, x, A, E, rfl, e, rfl, (j.mono (Nat.zero_le _)), F, f, (by first | (simp only [bC, wC, List.length_set]; done) | (simp only [bC, wC, List.length_set, ← y]; done) | (simp; done) | (simp; omega) | omega), i, (m.mono (Nat.zero_le _)), G, k⟩
 apply brc H<;>intro h H
 ·cases W.trans H.symm
  exact ⟨v, C, x, A, E, rfl, e, rfl, (j.mono (Nat.zero_le _)), F, f, (by first | (simp only [bC, wC, List.length_set]; done) | (simp only [bC, wC, List.length_set, ← y]; done) | (simp; done) | (simp; omega) | omega), i, (m.mono (Nat.zero_le _)), G, k⟩
 refine ⟨_, (e.a 4), ?_⟩
 apply brc H<;>intro h H
 ·cases W.trans H.symm
  exact ⟨v, C, x, A, E, rfl, e, rfl, (j.mono (Nat.zero_le _)), F, f, (by first | (simp only [bC, wC, List.length_set]; done) | (simp only [bC, wC, List.length_set, ← y]; done) | (simp; done) | (simp; omega) | omega), i, (m.mono (Nat.zero_le _)), G, k⟩
 refine ⟨_, _, _, (e.a 0), _, _, _, (e.a 1), _, _, _, (e.a 2), _, (e.a 3), _, (e.a 4), ?_⟩
 obtain ⟨au, H⟩ := H
 obtain ⟨av, aw, H⟩ := qaa H
 refine (qhl (by first | (simp only [bC, wC, List.length_set, ← y]; done) | (simp; done)) (qbe.con au aw (R.chgS k z) a4 j.row j.le f.row f.le)).mono ?_
 rintro _ aY ⟨rfl, J⟩
 have e := e.ext J
 have f := f.ext J
 have p := p.ext J
 have i := i.ext J
 have j := j.ext J
 have m := m.ext J
 have k := k.then J
 refine ⟨av, rfl, ?_⟩
 apply brc H<;>intro h H
 ·cases W.trans H.symm
  exact ⟨v, C, x, A, E, rfl, e, rfl, (j.mono (Nat.zero_le _)), F, f, (by first | (simp only [bC, wC, List.length_set]; done) | (simp only [bC, wC, List.length_set, ← y]; done) | (simp; done) | (simp; omega) | omega), i, (m.mono (Nat.zero_le _)), G, k⟩
 obtain ⟨ax, H⟩ := H
 obtain ⟨ay, az, H⟩ := qaa H
 refine (qii (l1 := [_]) (l2 := [_, _]) (qcf.con ax az i (m.mono (Nat.zero_le _)) (by first | exact e | (simp only [bC, wC, List.length_set, ← y]; exact e)) (R.chgS k z) a4 (fun n e_ => (j.kept e_ (fun g b => (fun c => c.elim ((j.qfe m (by decide) (by decide) (by decide)) g b) ((qj4 (j.qd0 i (by decide) (by decide) (by decide))) g b)))).row) j.le f.row f.le (fun c => c.elim ((m.qa3 e (by decide))).inb (a5)) (fun B => (fun g b => (fun c => c.elim ((fun g b c => (qgK G c (fun b => (Or.inr (Or.inr (Or.inr (Or.inl b)))))).elim (fun ab => Nat.not_le.2 (R.old B g b) ab) (z B g b)) g b) ((fun g b c => z B g b (Or.inr (Or.inr (Or.inr (Or.inr c))))) g b)))) (fun _ => (fun g b => (fun c => c.elim (((Own.qai f m (by decide))).inb g b) ((qbT (f.qa3 i (by decide))) g b)))))).mono ?_
 rintro _ aZ ⟨aA, aB, rfl, Q6, aC, aD, S⟩
 have aE := Mov.trans G aD k.size
 have e := e.chgS S (fun c => c.elim ((m.qa3 e (by decide))).inb (a5))
 have f := f.chgS S (fun g b => (fun c => c.elim (((Own.qai f m (by decide))).inb g b) ((qbT (f.qa3 i (by decide))) g b)))
 have p := p.chgS S (fun c => c.elim ((m.qa3 p (by decide))).inb ((fun b => X (Or.inr (Or.inr (Or.inr (Or.inr b)))))))
 have j := j.kept S (fun g b => (fun c => c.elim ((j.qfe m (by decide) (by decide) (by decide)) g b) ((qj4 (j.qd0 i (by decide) (by decide) (by decide))) g b)))
 have k := k.chg S (fun g => (fun c => c.elim ((fun g b => (qgK G b (fun b => (Or.inr (Or.inr (Or.inr (Or.inl b))))))) g) ((fun g b => Or.inr (Or.inr (Or.inr (Or.inr (Or.inr b))))) g)))
 have i := Q6
 have O := aC
 refine ⟨rfl, ?_⟩
 obtain ⟨aF, H⟩ := H
 obtain ⟨aG, aH, H⟩ := qaa H
 refine (qbj.con aF aH (by first | exact e | (simp only [bC, wC, List.length_set, ← y]; exact e)) (R.chgS k z) a4 (j.mono (Nat.zero_le _)) (f.mono (Nat.zero_le _)) ai (fun B => (fun g b => (fun c => c.elim ((fun g b c => ((F _ c).elim (fun T => Or.inr (Or.inl T)) Or.inl).elim (fun ab => Nat.not_le.2 (R.old B g b) ab) (z B g b)) g b) (fun c => c.elim ((fun g b c => z B g b (Or.inr (Or.inl c))) g b) ((fun g b c => z B g b (Or.inr (Or.inr (Or.inl c)))) g b)))))).mono ?_
 rintro _ b0 ⟨aI, aJ, aK, rfl, Q1, aL, aM, ac, Q4, ak, a2⟩
 simp only [bC, wC, aL] at Q1
 simp only [bC, wC, List.length_set, ← y] at Q1
 try dsimp only at ak
 have aN := F.trans ac k.size
 have aO := ac.dis ai f.oldA
 have aP := fun b => (ac _ b).elim aj (fun T => absurd p.lt (Nat.not_lt.2 T))
 have p := p.chgS a2 (fun c => c.elim aj (fun c => c.elim ((show Apart o N from fun a_ aQ aR => X (Or.inr (Or.inl ⟨a_, aQ, aR⟩)))).inb ((fun b => X (Or.inr (Or.inr (Or.inl b)))))))
 have i := i.chgS a2 (fun c => c.elim (j.qd0 i (by decide) (by decide) (by decide)) (fun c => c.elim ((f.qa3 i (by decide))).inb ((a5).symm)))
 have O := O.chgS a2 (fun g b => (fun c => c.elim (((j.qfe O (by decide) (by decide) (by decide))).symm g b) (fun c => c.elim (((Own.qai O f (by decide))).inb g b) ((qbT (O.qa3 e (by decide))) g b))))
 have k := k.chg a2 (fun g => (fun c => c.elim ((fun g b => ((F _ b).elim (fun T => Or.inr (Or.inl T)) Or.inl)) g) (fun c => c.elim ((fun g b => (Or.inr (Or.inr (Or.inl b)))) g) ((fun g b => Or.inr (Or.inr (Or.inr (Or.inl b)))) g))))
 have e := Q1
 have f := Q4
 have aS := aM
 refine ⟨aG.1, rfl, ?_⟩
 obtain ⟨aT, aU, aV⟩ := H
 exact ⟨aT, aU, _, _, _, _, ay, _, aI, aJ, aK, aA, aB, rfl, aV, k, (by first | exact e | (simp only [bC, wC, List.length_set, ← y, ak]; exact e)), aS, aN, i, O, aE, f, (by first | rfl | assumption | omega | (simp; done) | (simp; omega) | (simp; assumption)), p, aO, aP⟩
end Go.V
