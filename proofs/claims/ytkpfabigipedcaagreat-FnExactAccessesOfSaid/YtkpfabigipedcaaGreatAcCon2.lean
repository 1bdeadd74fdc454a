import Derived.Test.YtkpfabigipedcaaGreatAcCon1
namespace Go.V
open Go.Proofs
open IntKind (wrap)
set_option linter.unusedVariables false
set_option linter.unusedSimpArgs false
set_option maxRecDepth 100000
def slices_insertionSortCmpFunc_impl_Access.vc (A0 : OA) (n0 c0 : Nat) (x1 x2 : Int) (f3 : Nat) (cap3 : Array Value) (w : World) (K : VK) : Prop :=
  LoopT (σ := Int × Unit) (fun z21 w22 next23 => bcase (decide (z21.1 < x2)) (LoopT (σ := Int × Unit) (fun z24 w25 next26 => JoinT (σ := Unit) (fun J27 => bcase (decide (z24.1 > x1)) ((idx z24.1 n0 A0 fun a28 => (idx (wrap .i64 (z24.1 - 1)) n0 A0 fun a29 => ((∃ (n30 : Int), w25.drew.cell? ((a28.add ((z24.1.toNat) * 4)).add 0) = some (iv n30) ∧ ∃ (n31 : Int), w25.drew.cell? ((a28.add ((z24.1.toNat) * 4)).add 1) = some (iv n31) ∧ ∃ (n32 : Int), w25.drew.cell? ((a28.add ((z24.1.toNat) * 4)).add 2) = some (iv n32) ∧ ∃ (n33 : Int), w25.drew.cell? ((a28.add ((z24.1.toNat) * 4)).add 3) = some (iv n33) ∧ ((∃ (n34 : Int), w25.drew.cell? ((a29.add (((wrap .i64 (z24.1 - 1)).toNat) * 4)).add 0) = some (iv n34) ∧ ∃ (n35 : Int), w25.drew.cell? ((a29.add (((wrap .i64 (z24.1 - 1)).toNat) * 4)).add 1) = some (iv n35) ∧ ∃ (n36 : Int), w25.drew.cell? ((a29.add (((wrap .i64 (z24.1 - 1)).toNat) * 4)).add 2) = some (iv n36) ∧ ∃ (n37 : Int), w25.drew.cell? ((a29.add (((wrap .i64 (z24.1 - 1)).toNat) * 4)).add 3) = some (iv n37) ∧ ((Cl f3 (#[(.agg #[(iv n30), (iv n31), (iv n32), (iv n33)]), (.agg #[(iv n34), (iv n35), (iv n36), (iv n37)])] ++ cap3) w25.drew fun v38 w39 => (∃ (n40 : Int), v38 = (iv n40) ∧ bcase (decide (n40 < 0)) (J27 () w39) (next23 ((wrap .i64 (z21.1 + 1)), ()) w39))) ∧ True)) ∧ True)) ∧ (∃ (n41 : Int), w25.drew.cell? ((a29.add (((wrap .i64 (z24.1 - 1)).toNat) * 4)).add 0) = some (iv n41) ∧ ∃ (n42 : Int), w25.drew.cell? ((a29.add (((wrap .i64 (z24.1 - 1)).toNat) * 4)).add 1) = some (iv n42) ∧ ∃ (n43 : Int), w25.drew.cell? ((a29.add (((wrap .i64 (z24.1 - 1)).toNat) * 4)).add 2) = some (iv n43) ∧ ∃ (n44 : Int), w25.drew.cell? ((a29.add (((wrap .i64 (z24.1 - 1)).toNat) * 4)).add 3) = some (iv n44) ∧ ((∃ (n45 : Int), w25.drew.cell? ((a28.add ((z24.1.toNat) * 4)).add 0) = some (iv n45) ∧ ∃ (n46 : Int), w25.drew.cell? ((a28.add ((z24.1.toNat) * 4)).add 1) = some (iv n46) ∧ ∃ (n47 : Int), w25.drew.cell? ((a28.add ((z24.1.toNat) * 4)).add 2) = some (iv n47) ∧ ∃ (n48 : Int), w25.drew.cell? ((a28.add ((z24.1.toNat) * 4)).add 3) = some (iv n48) ∧ ((Cl f3 (#[(.agg #[(iv n45), (iv n46), (iv n47), (iv n48)]), (.agg #[(iv n41), (iv n42), (iv n43), (iv n44)])] ++ cap3) w25.drew fun v49 w50 => (∃ (n51 : Int), v49 = (iv n51) ∧ bcase (decide (n51 < 0)) (J27 () w50) (next23 ((wrap .i64 (z21.1 + 1)), ()) w50))) ∧ True)) ∧ True)) ∧ True)))) (((((((next23 ((wrap .i64 (z21.1 + 1)), ()) w25.drew) ∧ True)) ∧ True)) ∧ (((((next23 ((wrap .i64 (z21.1 + 1)), ()) w25.drew) ∧ True)) ∧ True)) ∧ True))) fun z52 w53 => (idx (wrap .i64 (z24.1 - 1)) n0 A0 fun a54 => (idx z24.1 n0 A0 fun a55 => ((∃ (n56 : Int), w53.drew.cell? ((a54.add (((wrap .i64 (z24.1 - 1)).toNat) * 4)).add 0) = some (iv n56) ∧ ∃ (n57 : Int), w53.drew.cell? ((a54.add (((wrap .i64 (z24.1 - 1)).toNat) * 4)).add 1) = some (iv n57) ∧ ∃ (n58 : Int), w53.drew.cell? ((a54.add (((wrap .i64 (z24.1 - 1)).toNat) * 4)).add 2) = some (iv n58) ∧ ∃ (n59 : Int), w53.drew.cell? ((a54.add (((wrap .i64 (z24.1 - 1)).toNat) * 4)).add 3) = some (iv n59) ∧ ((∃ (n60 : Int), w53.drew.cell? ((a55.add ((z24.1.toNat) * 4)).add 0) = some (iv n60) ∧ ∃ (n61 : Int), w53.drew.cell? ((a55.add ((z24.1.toNat) * 4)).add 1) = some (iv n61) ∧ ∃ (n62 : Int), w53.drew.cell? ((a55.add ((z24.1.toNat) * 4)).add 2) = some (iv n62) ∧ ∃ (n63 : Int), w53.drew.cell? ((a55.add ((z24.1.toNat) * 4)).add 3) = some (iv n63) ∧ (idx z24.1 n0 A0 fun a64 => ((stCells (a64.add ((z24.1.toNat) * 4)) [(iv n56), (iv n57), (iv n58), (iv n59)] 0 w53.drew fun w65 => (idx (wrap .i64 (z24.1 - 1)) n0 A0 fun a66 => ((stCells (a66.add (((wrap .i64 (z24.1 - 1)).toNat) * 4)) [(iv n60), (iv n61), (iv n62), (iv n63)] 0 w65 fun w67 => next26 ((wrap .i64 (z24.1 - 1)), ()) w67) ∧ True))) ∧ True))) ∧ True)) ∧ (∃ (n68 : Int), w53.drew.cell? ((a55.add ((z24.1.toNat) * 4)).add 0) = some (iv n68) ∧ ∃ (n69 : Int), w53.drew.cell? ((a55.add ((z24.1.toNat) * 4)).add 1) = some (iv n69) ∧ ∃ (n70 : Int), w53.drew.cell? ((a55.add ((z24.1.toNat) * 4)).add 2) = some (iv n70) ∧ ∃ (n71 : Int), w53.drew.cell? ((a55.add ((z24.1.toNat) * 4)).add 3) = some (iv n71) ∧ ((∃ (n72 : Int), w53.drew.cell? ((a54.add (((wrap .i64 (z24.1 - 1)).toNat) * 4)).add 0) = some (iv n72) ∧ ∃ (n73 : Int), w53.drew.cell? ((a54.add (((wrap .i64 (z24.1 - 1)).toNat) * 4)).add 1) = some (iv n73) ∧ ∃ (n74 : Int), w53.drew.cell? ((a54.add (((wrap .i64 (z24.1 - 1)).toNat) * 4)).add 2) = some (iv n74) ∧ ∃ (n75 : Int), w53.drew.cell? ((a54.add (((wrap .i64 (z24.1 - 1)).toNat) * 4)).add 3) = some (iv n75) ∧ (idx z24.1 n0 A0 fun a76 => ((stCells (a76.add ((z24.1.toNat) * 4)) [(iv n72), (iv n73), (iv n74), (iv n75)] 0 w53.drew fun w77 => (idx (wrap .i64 (z24.1 - 1)) n0 A0 fun a78 => ((stCells (a78.add (((wrap .i64 (z24.1 - 1)).toNat) * 4)) [(iv n68), (iv n69), (iv n70), (iv n71)] 0 w77 fun w79 => next26 ((wrap .i64 (z24.1 - 1)), ()) w79) ∧ True))) ∧ True))) ∧ True)) ∧ True)))) (z21.1, ()) w22) (K (.tuple #[]) w22)) ((wrap .i64 (x1 + 1)), ()) w

def slices_insertionSortCmpFunc_impl_Access.ann : Ann := (.seq .l (.one (.loop [(8, .int .i64)] (.seq (.seq .l (.two .l .l)) (.seq (.one (.seq .l (.one (.loop [(9, .int .i64)] (.cut [] (.seq .each (.two .l .l)) (.seq (.one .each) .l)))))) .l)))))

theorem slices_insertionSortCmpFunc_impl_Access.start {A0 : OA} {n0 c0 : Nat} {x1 x2 : Int} {f3 : Nat} {cap3 : Array Value} {w : World} {K : Value → World → Prop} (h : slices_insertionSortCmpFunc_impl_Access.vc A0 n0 c0 x1 x2 f3 cap3 w K) : Cl 187 #[(sv A0 n0 c0), (iv x1), (iv x2), (.func (.func f3) #[] cap3)] w K :=
  vcF_sound mixed (fn := Tryz.f187) (by kernel_rfl) (by kernel_rfl) (an := slices_insertionSortCmpFunc_impl_Access.ann) (args := [(sv A0 n0 c0), (iv x1), (iv x2), (.func (.func f3) #[] cap3)]) (Eq.mpr (by kernel_rfl) h)

theorem slices_insertionSortCmpFunc_impl_Access.con {xs0 : List D.Access} {A0 : OA} {c0 f3 : Nat} {x1 x2 : Int} {cap3 : Array Value} {g3 : D.Access → D.Access → Int} {D3 : D.Access → D.Access → Prop} {r : (List D.Access)} {w : World} (hp : M.slices_insertionSortCmpFunc_impl_Access_pre xs0 x1 x2 g3 D3) (hr : r = M.slices_insertionSortCmpFunc_impl_Access xs0 x1 x2 g3) (O1 : Own el63 w 0 A0 c0 xs0) (F3 : ∀ (z0_ : D.Access) (z1_ : D.Access), D3 z0_ z1_ → ∀ w_ : World, Chg (InB A0) w w_ → Cl f3 (#[(.agg #[(iv z0_.Phase), (iv z0_.Warp), (iv z0_.Address), (iv z0_.Kind)]), (.agg #[(iv z1_.Phase), (iv z1_.Warp), (iv z1_.Address), (iv z1_.Kind)])] ++ cap3) w_ (fun v_ w1_ => v_ = (iv (g3 z0_ z1_)) ∧ Ext w_ w1_)) :
    Cl 187 #[(sv A0 xs0.length c0), (iv x1), (iv x2), (.func (.func f3) #[] cap3)] w (fun v_ w_ => v_ = (.tuple #[]) ∧ Own el63 w_ 0 A0 c0 r ∧ r.length = xs0.length ∧ Chg (InB A0) w w_) := by
 have H := wp.slices_insertionSortCmpFunc_impl_Access.math xs0 x1 x2 g3 D3 hp
 have hB := Chg.refl (InB A0) w
 refine slices_insertionSortCmpFunc_impl_Access.start ?_
 unfold vc
 unfold wp.slices_insertionSortCmpFunc_impl_Access at H
 obtain ⟨J124, ⟨m301, hJ300⟩, hS125⟩ := H
 refine ⟨fun m_ z_ w_ => ∃ (i120 : Int) (xs121 : List D.Access), z_ = (i120, ()) ∧ J124 m_ (i120, xs121, ()) ∧ Chg (InB A0) w w_ ∧ Own el63 w_ 0 A0 c0 xs121 ∧ xs0.length = xs121.length, ⟨m301, (wrap .i64 (x1 + 1)), xs0, rfl, hJ300, hB, O1, (by first | rfl | assumption | omega | (simp; done) | (simp; omega) | (simp; assumption))⟩, ?_⟩
 rintro m123 _ w127 ⟨i120, xs121, rfl, hJ302, hB, O1, hn122⟩
 have H := hS125 m123 _ hJ302
 clear hS125 hJ302
 try dsimp only at H ⊢
 refine brc H (fun h H => ?_) fun h H => ?_
 ·obtain ⟨J202, ⟨m296, hJ295⟩, hS203⟩ := H
  refine ⟨fun m_ z_ w_ => ∃ (i198 : Int) (xs199 : List D.Access), z_ = (i198, ()) ∧ J202 m_ (i198, xs199, ()) ∧ Chg (InB A0) w w_ ∧ Own el63 w_ 0 A0 c0 xs199 ∧ xs0.length = xs199.length, ⟨m296, i120, xs121, rfl, hJ295, hB, O1, (by first | rfl | assumption | omega | (simp; done) | (simp; omega) | (simp; assumption))⟩, ?_⟩
  rintro m201 _ w205 ⟨i198, xs199, rfl, hJ297, hB, O1, hn200⟩
  have H := hS203 m201 _ hJ297
  clear hS203 hJ297
  try dsimp only at H ⊢
  obtain ⟨K293, hKK293, H⟩ := joinP_out H
  refine ⟨fun z_ w_ => z_ = (()) ∧ K293 (()) ∧ Chg (InB A0) w w_ ∧ Own el63 w_ 0 A0 c0 xs199, ?_, ?_⟩
  ·have O1 := O1.ext (Ext.drew _)
   have hB := hB.then (Ext.drew _)
   refine brc H (fun h H => ?_) fun h H => ?_
   ·obtain ⟨⟨h0_212, h1_213⟩, H⟩ := H
    obtain ⟨a210, ha211, hat209⟩ := Row.at O1.row h0_212 h1_213
    refine ⟨h0_212, (by first | exact h1_213 | omega | (simp at h1_213 ⊢; omega)), a210, ha211, ?_⟩
    obtain ⟨⟨h0_217, h1_218⟩, H⟩ := H
    obtain ⟨a215, ha216, hat214⟩ := Row.at O1.row h0_217 h1_218
    refine ⟨h0_217, (by first | exact h1_218 | omega | (simp at h1_218 ⊢; omega)), a215, ha216, ?_⟩
    refine And.intro ?_ ?_
    ·have H := H.1
     refine ⟨_, (hat209 0 _ rfl), _, (hat209 1 _ rfl), _, (hat209 2 _ rfl), _, (hat209 3 _ rfl), ?_⟩
     refine and_t ?_
     refine ⟨_, (hat214 0 _ rfl), _, (hat214 1 _ rfl), _, (hat214 2 _ rfl), _, (hat214 3 _ rfl), ?_⟩
     refine and_t ?_
     obtain ⟨hd221, H⟩ := H
     obtain ⟨r219, hr220, H⟩ := callO H
     refine (F3 (rd xs199 i198) (rd xs199 (wrap .i64 (i198 - 1))) hd221 _ hB).mono ?_
     rintro _ w222 ⟨rfl, e223⟩
     rw [← hr220]
     have O1 := O1.ext e223
     have hB := hB.then e223
     refine ⟨r219, rfl, ?_⟩
     refine brc H (fun h H => ?_) fun h H => ?_
     ·exact ⟨rfl, H, hB, O1⟩
     obtain ⟨m224, hm225, hJ226⟩ := H
     exact ⟨m224, hm225, _, _, rfl, hJ226, hB, O1, (by first | rfl | assumption | omega | (simp; done) | (simp; omega) | (simp; assumption))⟩
    refine And.intro ?_ ?_
    ·have H := H.2.1
     refine ⟨_, (hat214 0 _ rfl), _, (hat214 1 _ rfl), _, (hat214 2 _ rfl), _, (hat214 3 _ rfl), ?_⟩
     refine and_t ?_
     refine ⟨_, (hat209 0 _ rfl), _, (hat209 1 _ rfl), _, (hat209 2 _ rfl), _, (hat209 3 _ rfl), ?_⟩
     refine and_t ?_
     obtain ⟨hd230, H⟩ := H
     obtain ⟨r228, hr229, H⟩ := callO H
     refine (F3 (rd xs199 i198) (rd xs199 (wrap .i64 (i198 - 1))) hd230 _ hB).mono ?_
     rintro _ w231 ⟨rfl, e232⟩
     rw [← hr229]
     have O1 := O1.ext e232
     have hB := hB.then e232
     refine ⟨r228, rfl, ?_⟩
     refine brc H (fun h H => ?_) fun h H => ?_
     ·exact ⟨rfl, H, hB, O1⟩
     obtain ⟨m233, hm234, hJ235⟩ := H
     exact ⟨m233, hm234, _, _, rfl, hJ235, hB, O1, (by first | rfl | assumption | omega | (simp; done) | (simp; omega) | (simp; assumption))⟩
    exact trivial
   refine And.intro ?_ ?_
   ·have H := H.1
    refine and_t ?_
    refine and_t ?_
    obtain ⟨m237, hm238, hJ239⟩ := H
    exact ⟨m237, hm238, _, _, rfl, hJ239, hB, O1, (by first | rfl | assumption | omega | (simp; done) | (simp; omega) | (simp; assumption))⟩
   refine And.intro ?_ ?_
   ·have H := H.2.1
    refine and_t ?_
    refine and_t ?_
    obtain ⟨m240, hm241, hJ242⟩ := H
    exact ⟨m240, hm241, _, _, rfl, hJ242, hB, O1, (by first | rfl | assumption | omega | (simp; done) | (simp; omega) | (simp; assumption))⟩
   exact trivial
  rintro _ w207 ⟨rfl, H, hB, O1⟩
  have H := hKK293 _ H
  try dsimp only at H ⊢
  have O1 := O1.ext (Ext.drew _)
  have hB := hB.then (Ext.drew _)
  obtain ⟨⟨h0_247, h1_248⟩, H⟩ := H
  obtain ⟨a245, ha246, hat244⟩ := Row.at O1.row h0_247 h1_248
  refine ⟨h0_247, (by first | exact h1_248 | omega | (simp at h1_248 ⊢; omega)), a245, ha246, ?_⟩
  obtain ⟨⟨h0_252, h1_253⟩, H⟩ := H
  obtain ⟨a250, ha251, hat249⟩ := Row.at O1.row h0_252 h1_253
  refine ⟨h0_252, (by first | exact h1_253 | omega | (simp at h1_253 ⊢; omega)), a250, ha251, ?_⟩
  refine And.intro ?_ ?_
  ·have H := H.1
   refine ⟨_, (hat244 0 _ rfl), _, (hat244 1 _ rfl), _, (hat244 2 _ rfl), _, (hat244 3 _ rfl), ?_⟩
   refine and_t ?_
   refine ⟨_, (hat249 0 _ rfl), _, (hat249 1 _ rfl), _, (hat249 2 _ rfl), _, (hat249 3 _ rfl), ?_⟩
   obtain ⟨⟨h0_257, h1_258⟩, H⟩ := H
   obtain ⟨a255, ha256, hat254⟩ := Row.at O1.row h0_257 h1_258
   refine ⟨h0_257, (by first | exact h1_258 | omega | (simp at h1_258 ⊢; omega)), a255, ha256, ?_⟩
   refine and_t ?_
   refine Own.stA O1 ha256 h0_257 h1_258 0 (⟨(rd xs199 (wrap .i64 (i198 - 1))).Phase, (rd xs199 (wrap .i64 (i198 - 1))).Warp, (rd xs199 (wrap .i64 (i198 - 1))).Address, (rd xs199 (wrap .i64 (i198 - 1))).Kind⟩ : D.Access) (fun w259 P1 e260 hb261 => ?_)
   have O1 := P1
   obtain ⟨⟨h0_265, h1_266⟩, H⟩ := H
   obtain ⟨a263, ha264, hat262⟩ := Row.at O1.row h0_265 h1_266
   refine ⟨h0_265, (by first | exact h1_266 | omega | (simp at h1_266 ⊢; omega)), a263, ha264, ?_⟩
   refine and_t ?_
   refine Own.stA O1 ha264 h0_265 h1_266 0 (⟨(rd xs199 i198).Phase, (rd xs199 i198).Warp, (rd xs199 i198).Address, (rd xs199 i198).Kind⟩ : D.Access) (fun w267 O1 e268 hb269 => ?_)
   have hB := (hB.chgb e260 (Or.inr ⟨_, ha256, rfl⟩)).chgb e268 (Or.inr ⟨_, ha264, rfl⟩)
   obtain ⟨m270, hm271, hJ272⟩ := H
   exact ⟨m270, hm271, _, _, rfl, hJ272, hB, O1, (by first | rfl | assumption | omega | (simp; done) | (simp; omega) | (simp; assumption))⟩
  refine And.intro ?_ ?_
  ·have H := H.2.1
   refine ⟨_, (hat249 0 _ rfl), _, (hat249 1 _ rfl), _, (hat249 2 _ rfl), _, (hat249 3 _ rfl), ?_⟩
   refine and_t ?_
   refine ⟨_, (hat244 0 _ rfl), _, (hat244 1 _ rfl), _, (hat244 2 _ rfl), _, (hat244 3 _ rfl), ?_⟩
   obtain ⟨⟨h0_276, h1_277⟩, H⟩ := H
   obtain ⟨a274, ha275, hat273⟩ := Row.at O1.row h0_276 h1_277
   refine ⟨h0_276, (by first | exact h1_277 | omega | (simp at h1_277 ⊢; omega)), a274, ha275, ?_⟩
   refine and_t ?_
   refine Own.stA O1 ha275 h0_276 h1_277 0 (⟨(rd xs199 (wrap .i64 (i198 - 1))).Phase, (rd xs199 (wrap .i64 (i198 - 1))).Warp, (rd xs199 (wrap .i64 (i198 - 1))).Address, (rd xs199 (wrap .i64 (i198 - 1))).Kind⟩ : D.Access) (fun w278 P1 e279 hb280 => ?_)
   have O1 := P1
   obtain ⟨⟨h0_284, h1_285⟩, H⟩ := H
   obtain ⟨a282, ha283, hat281⟩ := Row.at O1.row h0_284 h1_285
   refine ⟨h0_284, (by first | exact h1_285 | omega | (simp at h1_285 ⊢; omega)), a282, ha283, ?_⟩
   refine and_t ?_
   refine Own.stA O1 ha283 h0_284 h1_285 0 (⟨(rd xs199 i198).Phase, (rd xs199 i198).Warp, (rd xs199 i198).Address, (rd xs199 i198).Kind⟩ : D.Access) (fun w286 O1 e287 hb288 => ?_)
   have hB := (hB.chgb e279 (Or.inr ⟨_, ha275, rfl⟩)).chgb e287 (Or.inr ⟨_, ha283, rfl⟩)
   obtain ⟨m289, hm290, hJ291⟩ := H
   exact ⟨m289, hm290, _, _, rfl, hJ291, hB, O1, (by first | rfl | assumption | omega | (simp; done) | (simp; omega) | (simp; assumption))⟩
  exact trivial
 cases hr.trans H.symm
 exact ⟨rfl, O1, (by first | (simp only [bC, wC, List.length_set]; done) | (simp only [bC, wC, List.length_set, ← hn122]; done) | (simp; done) | (simp; omega) | omega), hB⟩
def slices_pdqsortCmpFunc_impl_Access.vc (A0 : OA) (n0 c0 : Nat) (x1 x2 x3 : Int) (f4 : Nat) (cap4 : Array Value) (w : World) (K : VK) : Prop :=
  LoopT (σ := Int × Int × Int × Bool × Bool × Unit) (fun z21 w22 next23 => bcase (decide ((wrap .i64 (z21.2.1 - z21.1)) ≤ 12)) (Cl 187 #[(sv A0 n0 c0), (iv z21.1), (iv z21.2.1), (.func (.func f4) #[] cap4)] w22 fun v24 w25 => (v24 = (.tuple #[]) ∧ K (.tuple #[]) w25)) (bcase (z21.2.2.1 == 0) (Cl 188 #[(sv A0 n0 c0), (iv z21.1), (iv z21.2.1), (.func (.func f4) #[] cap4)] w22 fun v26 w27 => (v26 = (.tuple #[]) ∧ K (.tuple #[]) w27)) (JoinT (σ := Int × Unit) (fun J28 => bcase (!z21.2.2.2.1) (Cl 189 #[(sv A0 n0 c0), (iv z21.1), (iv z21.2.1), (.func (.func f4) #[] cap4)] w22 fun v29 w30 => (v29 = (.tuple #[]) ∧ J28 ((wrap .i64 (z21.2.2.1 - 1)), ()) w30)) (J28 (z21.2.2.1, ()) w22)) fun z31 w32 => Cl 190 #[(sv A0 n0 c0), (iv z21.1), (iv z21.2.1), (.func (.func f4) #[] cap4)] w32 fun v33 w34 => (∃ u35 : Value, (∃ (n36 : Int), u35 = (iv n36) ∧ ∃ u37 : Value, (∃ (n38 : Int), u37 = (iv n38) ∧ v33 = (.tuple #[(iv n36), (iv n38)]) ∧ JoinT (σ := Int × Int × Unit) (fun J39 => bcase (n38 == 2) (Cl 191 #[(sv A0 n0 c0), (iv z21.1), (iv z21.2.1), (.func (.func f4) #[] cap4)] w34 fun v40 w41 => (v40 = (.tuple #[]) ∧ J39 ((wrap .i64 ((wrap .i64 (z21.2.1 - 1)) - (wrap .i64 (n36 - z21.1)))), 1, ()) w41)) (J39 (n36, n38, ()) w34)) fun z42 w43 => JoinT (σ := Unit) (fun J44 => bcase z21.2.2.2.1 (bcase z21.2.2.2.2.1 (bcase (z42.2.1 == 1) (Cl 192 #[(sv A0 n0 c0), (iv z21.1), (iv z21.2.1), (.func (.func f4) #[] cap4)] w43 fun v45 w46 => (∃ (b47 : Bool), v45 = (.bool b47) ∧ bcase b47 (K (.tuple #[]) w46) (J44 () w46))) (J44 () w43)) (J44 () w43)) (J44 () w43)) fun z48 w49 => JoinT (σ := Bool × Unit) (fun J51 => (∃ M52 : Nat → Prop, bcase (decide (z21.1 > 0)) ((idx (wrap .i64 (z21.1 - 1)) n0 A0 fun a53 => ldIM M52 w49 (a53.add (((wrap .i64 (z21.1 - 1)).toNat) * 4)) 0 fun n54 => ldIM M52 w49 (a53.add (((wrap .i64 (z21.1 - 1)).toNat) * 4)) 1 fun n55 => ldIM M52 w49 (a53.add (((wrap .i64 (z21.1 - 1)).toNat) * 4)) 2 fun n56 => ldIM M52 w49 (a53.add (((wrap .i64 (z21.1 - 1)).toNat) * 4)) 3 fun n57 => (idx z42.1 n0 A0 fun a58 => ldIM M52 w49 (a58.add ((z42.1.toNat) * 4)) 0 fun n59 => ldIM M52 w49 (a58.add ((z42.1.toNat) * 4)) 1 fun n60 => ldIM M52 w49 (a58.add ((z42.1.toNat) * 4)) 2 fun n61 => ldIM M52 w49 (a58.add ((z42.1.toNat) * 4)) 3 fun n62 => Cl f4 (#[(.agg #[(iv n54), (iv n55), (iv n56), (iv n57)]), (.agg #[(iv n59), (iv n60), (iv n61), (iv n62)])] ++ cap4) w49.drew fun v63 w64 => (∃ (n65 : Int), v63 = (iv n65) ∧ SameBut M52 w49 w64 ∧ J51 ((!(decide (n65 < 0))), ()) w64)))) (J51 (false, ()) w49.drew))) fun z66 w67 => bcase z66.1 (Cl 193 #[(sv A0 n0 c0), (iv z21.1), (iv z21.2.1), (iv z42.1), (.func (.func f4) #[] cap4)] w67 fun v68 w69 => (∃ (n70 : Int), v68 = (iv n70) ∧ next23 (n70, z21.2.1, z31.1, z21.2.2.2.1, z21.2.2.2.2.1, ()) w69)) (Cl 194 #[(sv A0 n0 c0), (iv z21.1), (iv z21.2.1), (iv z42.1), (.func (.func f4) #[] cap4)] w67 fun v71 w72 => (∃ u73 : Value, (∃ (n74 : Int), u73 = (iv n74) ∧ ∃ u75 : Value, (∃ (b76 : Bool), u75 = (.bool b76) ∧ v71 = (.tuple #[(iv n74), (.bool b76)]) ∧ ((8 : Int) ≠ 0 ∧ bcase (decide ((wrap .i64 (n74 - z21.1)) < (wrap .i64 (z21.2.1 - n74)))) (Cl 156 #[(sv A0 n0 c0), (iv z21.1), (iv n74), (iv z31.1), (.func (.func f4) #[] cap4)] w72 fun v77 w78 => (v77 = (.tuple #[]) ∧ next23 ((wrap .i64 (n74 + 1)), z21.2.1, z31.1, (decide ((wrap .i64 (n74 - z21.1)) ≥ (wrap .i64 (Int.tdiv (wrap .i64 (z21.2.1 - z21.1)) 8)))), b76, ()) w78)) (Cl 156 #[(sv A0 n0 c0), (iv (wrap .i64 (n74 + 1))), (iv z21.2.1), (iv z31.1), (.func (.func f4) #[] cap4)] w72 fun v79 w80 => (v79 = (.tuple #[]) ∧ next23 (z21.1, n74, z31.1, (decide ((wrap .i64 (z21.2.1 - n74)) ≥ (wrap .i64 (Int.tdiv (wrap .i64 (z21.2.1 - z21.1)) 8)))), b76, ()) w80))))))))))))) (x1, x2, x3, true, true, ()) w

def slices_pdqsortCmpFunc_impl_Access.ann : Ann := (.seq .l (.seq .l (.one (.loop [(1, .int .i64), (2, .int .i64), (3, .int .i64), (10, .bool), (11, .bool)] (.one (.seq .l (.seq (.seq .l (.two (.seq .l .l) .l)) (.seq (.seq .l (.two (.seq .l .l) .l)) (.cut [(3, .int .i64)] (.seq .l (.two (.seq .l .l) .l)) (.seq .l (.cut [(13, .int .i64), (14, .int .i64)] (.seq .l (.two (.seq .l (.seq .l .l)) .l)) (.cut [] (.seq .l (.two (.seq .l (.two .l .l)) .l)) (.seq (.cut [(97, .bool)] .l (.two (.seq .l (.seq .l .l)) .l)) (.seq .l (.seq .l (.seq .l (.seq .l (.seq .l (.two (.seq .l (.seq .l .l)) (.seq .l (.seq .l .l)))))))))))))))))))))

theorem slices_pdqsortCmpFunc_impl_Access.start {A0 : OA} {n0 c0 : Nat} {x1 x2 x3 : Int} {f4 : Nat} {cap4 : Array Value} {w : World} {K : Value → World → Prop} (h : slices_pdqsortCmpFunc_impl_Access.vc A0 n0 c0 x1 x2 x3 f4 cap4 w K) : Cl 156 #[(sv A0 n0 c0), (iv x1), (iv x2), (iv x3), (.func (.func f4) #[] cap4)] w K :=
  vcF_sound mixed (fn := Tryz.f156) (by kernel_rfl) (by kernel_rfl) (an := slices_pdqsortCmpFunc_impl_Access.ann) (args := [(sv A0 n0 c0), (iv x1), (iv x2), (iv x3), (.func (.func f4) #[] cap4)]) (Eq.mpr (by kernel_rfl) h)

theorem slices_pdqsortCmpFunc_impl_Access.con {xs0 : List D.Access} {A0 : OA} {c0 f4 : Nat} {x1 x2 x3 : Int} {cap4 : Array Value} {g4 : D.Access → D.Access → Int} {D4 : D.Access → D.Access → Prop} {r : (List D.Access)} {w : World} (hp : M.slices_pdqsortCmpFunc_impl_Access_pre xs0 x1 x2 x3 g4 D4) (hr : r = M.slices_pdqsortCmpFunc_impl_Access xs0 x1 x2 x3 g4) (O1 : Own el63 w 0 A0 c0 xs0) (F4 : ∀ (z0_ : D.Access) (z1_ : D.Access), D4 z0_ z1_ → ∀ w_ : World, Chg (InB A0) w w_ → Cl f4 (#[(.agg #[(iv z0_.Phase), (iv z0_.Warp), (iv z0_.Address), (iv z0_.Kind)]), (.agg #[(iv z1_.Phase), (iv z1_.Warp), (iv z1_.Address), (iv z1_.Kind)])] ++ cap4) w_ (fun v_ w1_ => v_ = (iv (g4 z0_ z1_)) ∧ Ext w_ w1_)) :
    Cl 156 #[(sv A0 xs0.length c0), (iv x1), (iv x2), (iv x3), (.func (.func f4) #[] cap4)] w (fun v_ w_ => v_ = (.tuple #[]) ∧ Own el63 w_ 0 A0 c0 r ∧ r.length = xs0.length ∧ Chg (InB A0) w w_) := by
 have H := wp.slices_pdqsortCmpFunc_impl_Access.math xs0 x1 x2 x3 g4 D4 hp
 have hB := Chg.refl (InB A0) w
 refine slices_pdqsortCmpFunc_impl_Access.start ?_
 unfold vc
 unfold wp.slices_pdqsortCmpFunc_impl_Access at H
 obtain ⟨J27, ⟨m46, hJ45⟩, hS28⟩ := H
 refine ⟨fun m_ z_ w_ => ∃ (i21 i22 i23 : Int) (b24 b25 : Bool), z_ = (i21, i22, i23, b24, b25, ()) ∧ J27 m_ (i21, i22, i23, b24, b25, ()) ∧ Chg (InB A0) w w_ ∧ Own el63 w_ 0 A0 c0 xs0, ⟨m46, x1, x2, x3, true, true, rfl, hJ45, hB, O1⟩, ?_⟩
 rintro m26 _ w30 ⟨i21, i22, i23, b24, b25, rfl, hJ47, hB, O1⟩
 have H := hS28 m26 _ hJ47
 clear hS28 hJ47
 try dsimp only at H ⊢
 refine brc H (fun h H => ?_) fun h H => ?_
 ·obtain ⟨hp33, H⟩ := H
  obtain ⟨r31, hr32, H⟩ := callO H
  refine (slices_insertionSortCmpFunc_impl_Access.con hp33 hr32 (O1.mono (Nat.zero_le _)) (fun z0_ z1_  h_ w_ e_ => F4 z0_ z1_  h_ w_ (hB.chg e_ (fun g h_ => (Or.inr h_))))).mono ?_
  rintro _ w34 ⟨rfl, Q1, hl36, e35⟩
  have hB := hB.chg e35 (fun g h_ => (Or.inr h_))
  have O1 := Q1
  refine ⟨rfl, ?_⟩
  cases hr.trans H.symm
  exact ⟨rfl, O1, (by first | (simp only [bC, wC, List.length_set]; done) | (simp only [bC, wC, List.length_set, hl36]; done) | (simp; done) | (simp; omega) | omega), hB⟩
 refine brc H (fun h H => ?_) fun h H => ?_
 ·exact H.elim
 exact H.elim
def slices_SortFunc_impl_Access_impl_Access.vc (A0 : OA) (n0 c0 f1 : Nat) (cap1 : Array Value) (w : World) (K : VK) : Prop :=
  Cl 157 #[(.int .u64 (IntKind.wrap .u64 ((n0 : Nat) : Int)))] w fun v21 w22 => (∃ (n23 : Int), v21 = (iv n23) ∧ Cl 156 #[(sv A0 n0 c0), (iv 0), (iv ((n0 : Nat) : Int)), (iv n23), (.func (.func f1) #[] cap1)] w22 fun v24 w25 => (v24 = (.tuple #[]) ∧ K (.tuple #[]) w25))

def slices_SortFunc_impl_Access_impl_Access.ann : Ann := (.seq .l .l)

theorem slices_SortFunc_impl_Access_impl_Access.start {A0 : OA} {n0 c0 f1 : Nat} {cap1 : Array Value} {w : World} {K : Value → World → Prop} (h : slices_SortFunc_impl_Access_impl_Access.vc A0 n0 c0 f1 cap1 w K) : Cl 108 #[(sv A0 n0 c0), (.func (.func f1) #[] cap1)] w K :=
  vcF_sound mixed (fn := Tryz.f108) (by kernel_rfl) (by kernel_rfl) (an := slices_SortFunc_impl_Access_impl_Access.ann) (args := [(sv A0 n0 c0), (.func (.func f1) #[] cap1)]) (Eq.mpr (by kernel_rfl) h)

theorem slices_SortFunc_impl_Access_impl_Access.con {xs0 : List D.Access} {A0 : OA} {c0 f1 : Nat} {cap1 : Array Value} {g1 : D.Access → D.Access → Int} {D1 : D.Access → D.Access → Prop} {r : (List D.Access)} {w : World} (hp : M.slices_SortFunc_impl_Access_impl_Access_pre xs0 g1 D1) (hr : r = M.slices_SortFunc_impl_Access_impl_Access xs0 g1) (O1 : Own el63 w 0 A0 c0 xs0) (F1 : ∀ (z0_ : D.Access) (z1_ : D.Access), D1 z0_ z1_ → ∀ w_ : World, Chg (InB A0) w w_ → Cl f1 (#[(.agg #[(iv z0_.Phase), (iv z0_.Warp), (iv z0_.Address), (iv z0_.Kind)]), (.agg #[(iv z1_.Phase), (iv z1_.Warp), (iv z1_.Address), (iv z1_.Kind)])] ++ cap1) w_ (fun v_ w1_ => v_ = (iv (g1 z0_ z1_)) ∧ Ext w_ w1_)) :
    Cl 108 #[(sv A0 xs0.length c0), (.func (.func f1) #[] cap1)] w (fun v_ w_ => v_ = (.tuple #[]) ∧ Own el63 w_ 0 A0 c0 r ∧ r.length = xs0.length ∧ Chg (InB A0) w w_) := by
 have H := wp.slices_SortFunc_impl_Access_impl_Access.math xs0 g1 D1 hp
 refine slices_SortFunc_impl_Access_impl_Access.start ?_
 unfold vc
 unfold wp.slices_SortFunc_impl_Access_impl_Access at H
 obtain ⟨hp23, H⟩ := H
 obtain ⟨r21, hr22, H⟩ := callO H
 refine (math_bits_Len.con hp23 hr22 ).mono ?_
 rintro _ w24 ⟨rfl, e25⟩
 have O1 := O1.ext e25
 have hB := (Chg.refl (InB A0) w).then e25
 refine ⟨r21, rfl, ?_⟩
 obtain ⟨hp28, H⟩ := H
 obtain ⟨r26, hr27, H⟩ := callO H
 refine (slices_pdqsortCmpFunc_impl_Access.con hp28 hr27 (O1.mono (Nat.zero_le _)) (fun z0_ z1_  h_ w_ e_ => F1 z0_ z1_  h_ w_ (hB.chg e_ (fun g h_ => (Or.inr h_))))).mono ?_
 rintro _ w29 ⟨rfl, Q1, hl31, e30⟩
 have hB := hB.chg e30 (fun g h_ => (Or.inr h_))
 have O1 := Q1
 refine ⟨rfl, ?_⟩
 cases hr.trans H.symm
 exact ⟨rfl, O1, (by first | (simp only [bC, wC, List.length_set]; done) | (simp only [bC, wC, List.length_set, hl31]; done) | (simp; done) | (simp; omega) | omega), hB⟩
def slices_Compact_impl_Access_impl_Access.vc (A0 : OA) (n0 c0 : Nat) (w : World) (K : VK) : Prop :=
  bcase (decide (((n0 : Nat) : Int) < 2)) (K (sv A0 n0 c0) w) (LoopT (σ := Int × Unit) (fun z21 w22 next23 => bcase (decide (z21.1 < ((n0 : Nat) : Int))) ((idx z21.1 n0 A0 fun a24 => ldI w22 ((a24.add ((z21.1.toNat) * 4)).add 0) fun n25 => ldI w22 ((a24.add ((z21.1.toNat) * 4)).add 1) fun n26 => ldI w22 ((a24.add ((z21.1.toNat) * 4)).add 2) fun n27 => ldI w22 ((a24.add ((z21.1.toNat) * 4)).add 3) fun n28 => (idx (wrap .i64 (z21.1 - 1)) n0 A0 fun a29 => ldI w22 ((a29.add (((wrap .i64 (z21.1 - 1)).toNat) * 4)).add 0) fun n30 => ldI w22 ((a29.add (((wrap .i64 (z21.1 - 1)).toNat) * 4)).add 1) fun n31 => ldI w22 ((a29.add (((wrap .i64 (z21.1 - 1)).toNat) * 4)).add 2) fun n32 => ldI w22 ((a29.add (((wrap .i64 (z21.1 - 1)).toNat) * 4)).add 3) fun n33 => BinRun Tryz.prog .eql 63 (.agg #[(iv n25), (iv n26), (iv n27), (iv n28)]) (.agg #[(iv n30), (iv n31), (iv n32), (iv n33)]) fun b34 => bcase b34 (((0 : Int) ≤ z21.1 ∧ z21.1 ≤ ((n0 : Nat) : Int) ∧ LoopT (σ := Int × Int × Unit) (fun z35 w36 next37 => bcase (decide (z35.2.1 < (((n0 - (z21.1.toNat)) : Nat) : Int))) ((idx z35.2.1 (n0 - (z21.1.toNat)) ((if c0 = (z21.1.toNat) then A0 else A0.map (·.add ((z21.1.toNat) * szOf Tryz.prog 63)))) fun a38 => ldI w36 ((a38.add ((z35.2.1.toNat) * 4)).add 0) fun n39 => ldI w36 ((a38.add ((z35.2.1.toNat) * 4)).add 1) fun n40 => ldI w36 ((a38.add ((z35.2.1.toNat) * 4)).add 2) fun n41 => ldI w36 ((a38.add ((z35.2.1.toNat) * 4)).add 3) fun n42 => (idx (wrap .i64 (z35.2.1 - 1)) (n0 - (z21.1.toNat)) ((if c0 = (z21.1.toNat) then A0 else A0.map (·.add ((z21.1.toNat) * szOf Tryz.prog 63)))) fun a43 => ldI w36 ((a43.add (((wrap .i64 (z35.2.1 - 1)).toNat) * 4)).add 0) fun n44 => ldI w36 ((a43.add (((wrap .i64 (z35.2.1 - 1)).toNat) * 4)).add 1) fun n45 => ldI w36 ((a43.add (((wrap .i64 (z35.2.1 - 1)).toNat) * 4)).add 2) fun n46 => ldI w36 ((a43.add (((wrap .i64 (z35.2.1 - 1)).toNat) * 4)).add 3) fun n47 => BinRun Tryz.prog .neq 63 (.agg #[(iv n39), (iv n40), (iv n41), (iv n42)]) (.agg #[(iv n44), (iv n45), (iv n46), (iv n47)]) fun b48 => bcase b48 ((idx z35.2.1 (n0 - (z21.1.toNat)) ((if c0 = (z21.1.toNat) then A0 else A0.map (·.add ((z21.1.toNat) * szOf Tryz.prog 63)))) fun a49 => ∃ (n50 : Int), w36.drew.cell? ((a49.add ((z35.2.1.toNat) * 4)).add 0) = some (iv n50) ∧ ∃ (n51 : Int), w36.drew.cell? ((a49.add ((z35.2.1.toNat) * 4)).add 1) = some (iv n51) ∧ ∃ (n52 : Int), w36.drew.cell? ((a49.add ((z35.2.1.toNat) * 4)).add 2) = some (iv n52) ∧ ∃ (n53 : Int), w36.drew.cell? ((a49.add ((z35.2.1.toNat) * 4)).add 3) = some (iv n53) ∧ (idx z35.1 n0 A0 fun a54 => stCells (a54.add ((z35.1.toNat) * 4)) [(iv n50), (iv n51), (iv n52), (iv n53)] 0 w36.drew fun w55 => next37 ((wrap .i64 (z35.1 + 1)), (wrap .i64 (z35.2.1 + 1)), ()) w55))) (next37 (z35.1, (wrap .i64 (z35.2.1 + 1)), ()) w36.drew)))) (((0 : Int) ≤ z35.1 ∧ z35.1 ≤ ((n0 : Nat) : Int) ∧ Run Tryz.prog (Builtin.clear_ #[28] 0 #[(sv (if c0 = (z35.1.toNat) then A0 else A0.map (·.add ((z35.1.toNat) * szOf Tryz.prog 63))) (n0 - (z35.1.toNat)) (c0 - (z35.1.toNat)))]) w36 fun v56 w57 => v56 = .tuple #[] ∧ ((0 : Int) ≤ z35.1 ∧ z35.1 ≤ ((c0 : Nat) : Int) ∧ K (sv A0 (z35.1.toNat) c0) w57)))) (z21.1, 1, ()) w22.drew)) (next23 ((wrap .i64 (z21.1 + 1)), ()) w22.drew)))) (K (sv A0 n0 c0) w22)) (1, ()) w)

def slices_Compact_impl_Access_impl_Access.ann : Ann := (.seq .l (.seq (.seq .l (.two (.seq .l .l) .l)) (.seq (.seq .l (.one (.loop [(3, .int .i64)] (.seq (.seq .l (.two .l .l)) (.seq (.one (.seq .l (.two (.seq .l (.seq (.seq .l (.one (.loop [(3, .int .i64), (5, .int .i64)] (.seq (.seq .l (.two .l .l)) (.seq (.one (.seq .l (.two (.seq .l .l) .l))) .l))))) (.seq .l (.seq .l .l)))) .l))) .l))))) (.seq .l .l))))

theorem slices_Compact_impl_Access_impl_Access.vc_eq (A0 : OA) (n0 c0 : Nat) (w : World) (K : Value → World → Prop) : vcF Tryz.prog Tryz.f111 slices_Compact_impl_Access_impl_Access.ann [(sv A0 n0 c0)] K w = slices_Compact_impl_Access_impl_Access.vc A0 n0 c0 w K := by kernel_rfl

theorem slices_Compact_impl_Access_impl_Access.start {A0 : OA} {n0 c0 : Nat} {w : World} {K : Value → World → Prop} (h : slices_Compact_impl_Access_impl_Access.vc A0 n0 c0 w K) : Cl 111 #[(sv A0 n0 c0)] w K :=
  vcF_sound mixed (fn := Tryz.f111) (by kernel_rfl) (by kernel_rfl) (an := slices_Compact_impl_Access_impl_Access.ann) (args := [(sv A0 n0 c0)]) (by rw [slices_Compact_impl_Access_impl_Access.vc_eq]; exact h)
end Go.V
set_option linter.unusedVariables false
set_option linter.unusedSimpArgs false
set_option maxRecDepth 100000
namespace Go.V
open IntKind (wrap)
open Go.Proofs
theorem acc_rows : SlT Tryz.prog el63 28 := sltOf (by kernel_rfl) (by kernel_rfl)
theorem acc_all (x y : D.Access) : (List.all (List.zip [x.Phase, x.Warp, x.Address, x.Kind] [y.Phase, y.Warp, y.Address, y.Kind]) fun p => p.1 == p.2) = decide (x = y) := by
  rw [Bool.eq_iff_iff]
  cases x; cases y
  simp
theorem acc_eql (x y : D.Access) (w : World) : (eqGuard .eql 63 (.const undef) (.const undef) (.agg #[.int .i64 x.Phase, .int .i64 x.Warp, .int .i64 x.Address, .int .i64 x.Kind]) (.agg #[.int .i64 y.Phase, .int .i64 y.Warp, .int .i64 y.Address, .int .i64 y.Kind]) >>= fun _ => binOp .eql 63 (.agg #[.int .i64 x.Phase, .int .i64 x.Warp, .int .i64 x.Address, .int .i64 x.Kind]) (.agg #[.int .i64 y.Phase, .int .i64 y.Warp, .int .i64 y.Address, .int .i64 y.Kind])).run Tryz.prog w = .ok (.bool (decide (x = y))) w := by
  rw [← acc_all]
  exact runEql (P := Tryz.prog) (t := 63) (xs := [x.Phase, x.Warp, x.Address, x.Kind]) (ys := [y.Phase, y.Warp, y.Address, y.Kind]) (by kernel_rfl) (by kernel_rfl) (by kernel_rfl) (by kernel_rfl) rfl (.const undef) (.const undef) w
theorem acc_neq (x y : D.Access) (w : World) : (eqGuard .neq 63 (.const undef) (.const undef) (.agg #[.int .i64 x.Phase, .int .i64 x.Warp, .int .i64 x.Address, .int .i64 x.Kind]) (.agg #[.int .i64 y.Phase, .int .i64 y.Warp, .int .i64 y.Address, .int .i64 y.Kind]) >>= fun _ => binOp .neq 63 (.agg #[.int .i64 x.Phase, .int .i64 x.Warp, .int .i64 x.Address, .int .i64 x.Kind]) (.agg #[.int .i64 y.Phase, .int .i64 y.Warp, .int .i64 y.Address, .int .i64 y.Kind])).run Tryz.prog w = .ok (.bool (!decide (x = y))) w := by
  rw [← acc_all]
  exact runNeq (P := Tryz.prog) (t := 63) (xs := [x.Phase, x.Warp, x.Address, x.Kind]) (ys := [y.Phase, y.Warp, y.Address, y.Kind]) (by kernel_rfl) (by kernel_rfl) (by kernel_rfl) (by kernel_rfl) rfl (.const undef) (.const undef) w
theorem acc_size : szOf Tryz.prog 63 = 4 := by kernel_rfl
set_option maxHeartbeats 1000000 in
theorem slices_Compact_impl_Access_impl_Access.con {xs0 : List D.Access} {A0 : Option Addr} {c0 : Nat} {r : List D.Access} {w : World} (hp : M.slices_Compact_impl_Access_impl_Access_pre xs0) (hr : r = M.slices_Compact_impl_Access_impl_Access xs0) (O1 : Own el63 w 0 A0 c0 xs0) :
    Cll Tryz.prog 111 #[(.slice A0 xs0.length c0)] w (fun v_ w_ => ∃ (A0_ : Option Addr) (c0_ : Nat), v_ = (.slice A0_ r.length c0_) ∧ Own el63 w_ 0 A0_ c0_ r ∧ Mov w A0 A0_ ∧ Chg (InB A0) w w_) := by
  have hl : xs0.length ≤ 17179869184 := hp
  have hr : r = M.squeeze xs0 := hr
  refine slices_Compact_impl_Access_impl_Access.start ?_
  unfold slices_Compact_impl_Access_impl_Access.vc
  refine bcase_mk (fun h => ?_) fun h => ?_
  · have hs := squeeze_small (l := xs0) (by simp at h; omega)
    rw [hr, hs]
    exact ⟨A0, c0, rfl, O1, Mov.same _ _, Chg.refl _ _⟩
  have hn : 2 ≤ xs0.length := by simp at h; omega
  refine ⟨fun m z w' => ∃ k : Nat, 1 ≤ k ∧ k ≤ xs0.length ∧ m = xs0.length - k ∧ z = ((k : Int), ()) ∧ M.squeeze (xs0.take k) = xs0.take k ∧ Own el63 w' 0 A0 c0 xs0 ∧ Chg (InB A0) w w',
    ⟨_, 1, Nat.le_refl _, by omega, rfl, rfl, squeeze_small (by rw [List.length_take]; omega), O1, Chg.refl _ _⟩, ?_⟩
  rintro m _ w2 ⟨k, hk1, hk, rfl, rfl, hF, O, hB⟩
  dsimp only
  refine bcase_mk (fun h => ?_) fun h => ?_
  · have hk : k < xs0.length := by simpa using h
    have wk : IntKind.wrap .i64 ((k : Int) - 1) = ((k - 1 : Nat) : Int) := by rw [w64 (by omega) (by omega)]; omega
    rw [wk]
    obtain ⟨a, ha, hat⟩ := Row.at O.row (i := (k : Int)) (by omega) (by omega)
    obtain ⟨b, hb, hbt⟩ := Row.at O.row (i := ((k - 1 : Nat) : Int)) (by omega) (by omega)
    refine ⟨by omega, by omega, a, ha, _, hat 0 _ rfl, _, hat 1 _ rfl, _, hat 2 _ rfl, _, hat 3 _ rfl, by omega, by omega, b, hb, _, hbt 0 _ rfl, _, hbt 1 _ rfl, _, hbt 2 _ rfl, _, hbt 3 _ rfl, ?_⟩
    refine ⟨_, acc_eql _ _, ?_⟩
    have up := squeeze_up (l := xs0) hk1 hk
    have O := O.ext (Ext.drew _)
    have hB := hB.then (Ext.drew _)
    refine bcase_mk (fun e => ?_) fun e => ?_
    · have e : rd xs0 (k : Int) = rd xs0 ((k - 1 : Nat) : Int) := by simpa using e
      rw [if_pos e] at up
      refine ⟨by omega, by omega, ?_⟩
      refine ⟨fun m z w' => ∃ (kk k2 : Nat) (ys : List D.Access), 1 ≤ k2 ∧ k + k2 ≤ xs0.length ∧ m = xs0.length - k - k2 ∧ z = ((kk : Int), (k2 : Int), ()) ∧ ys.length = xs0.length ∧ ys.take kk = M.squeeze (xs0.take (k + k2)) ∧ kk < k + k2 ∧ (∀ i : Nat, k + k2 ≤ i + 1 → i < xs0.length → rd ys (i : Int) = rd xs0 (i : Int)) ∧ Own el63 w' 0 A0 c0 ys ∧ Chg (InB A0) w w',
        ⟨_, k, 1, xs0, Nat.le_refl _, by omega, rfl, rfl, rfl, by rw [up, hF], by omega, fun _ _ _ => rfl, O, hB⟩, ?_⟩
      rintro m _ w3 ⟨kk, k2, ys, hk2, hkk2, rfl, rfl, hyl, hyt, hkk, hyr, O, hB⟩
      dsimp only
      simp only [Int.toNat_natCast, acc_size]
      refine bcase_mk (fun h => ?_) fun h => ?_
      · have hk3 : k + k2 < xs0.length := by simp at h; omega
        have wk2 : IntKind.wrap .i64 ((k2 : Int) - 1) = ((k2 - 1 : Nat) : Int) := by rw [w64 (by omega) (by omega)]; omega
        rw [wk2]
        have OD := O.drop (l := k) (by omega)
        have dl : (ys.drop k).length = xs0.length - k := by rw [List.length_drop, hyl]
        have rdD : ∀ j : Nat, k + j < xs0.length → rd (ys.drop k) (j : Int) = rd ys ((k + j : Nat) : Int) := fun j hj => by
          rw [rd_nat (by omega), rd_nat (by omega), List.getElem_drop]
        obtain ⟨a, ha, hat⟩ := Row.at OD.row (i := (k2 : Int)) (by omega) (by omega)
        obtain ⟨b, hb, hbt⟩ := Row.at OD.row (i := ((k2 - 1 : Nat) : Int)) (by omega) (by omega)
        rw [rdD k2 hk3, hyr (k + k2) (by omega) hk3] at hat
        rw [rdD (k2 - 1) (by omega), hyr (k + (k2 - 1)) (by omega) (by omega), show k + (k2 - 1) = k + k2 - 1 by omega] at hbt
        refine ⟨by omega, by omega, a, ha, _, hat 0 _ rfl, _, hat 1 _ rfl, _, hat 2 _ rfl, _, hat 3 _ rfl, by omega, by omega, b, hb, _, hbt 0 _ rfl, _, hbt 1 _ rfl, _, hbt 2 _ rfl, _, hbt 3 _ rfl, ?_⟩
        refine ⟨_, acc_neq _ _, ?_⟩
        have up := squeeze_up (l := xs0) (k := k + k2) (by omega) hk3
        have O := O.ext (Ext.drew w3)
        have hB := hB.then (Ext.drew w3)
        have hat : ∀ j v, ((el63).enc (rd xs0 ((k + k2 : Nat) : Int)))[j]? = some v → w3.drew.cell? ((a.add ((k2 : Int).toNat * 4)).add j) = some v := fun j v hj => Ext.cell (Ext.drew w3) (hat j v hj)
        refine bcase_mk (fun e => ?_) fun e => ?_
        · have e : ¬ rd xs0 ((k + k2 : Nat) : Int) = rd xs0 ((k + k2 - 1 : Nat) : Int) := by simpa using e
          rw [if_neg e] at up
          refine ⟨by omega, by omega, a, ha, _, hat 0 _ rfl, _, hat 1 _ rfl, _, hat 2 _ rfl, _, hat 3 _ rfl, ?_⟩
          obtain ⟨a3, ha3, _⟩ := Row.at O.row (i := (kk : Int)) (by omega) (by omega)
          refine ⟨by omega, by omega, a3, ha3, ?_⟩
          have st := Own.storeAt O ha3 (i := (kk : Int)) (by omega) (by omega) 0 [(.int .i64 (rd xs0 ((k + k2 : Nat) : Int)).Phase), (.int .i64 (rd xs0 ((k + k2 : Nat) : Int)).Warp), (.int .i64 (rd xs0 ((k + k2 : Nat) : Int)).Address), (.int .i64 (rd xs0 ((k + k2 : Nat) : Int)).Kind)] (rd xs0 ((k + k2 : Nat) : Int)) rfl (Nat.le_of_ble_eq_true rfl) rfl
            (k := fun w4 => ∃ m', m' < xs0.length - k - k2 ∧ ∃ (kk' k2' : Nat) (ys : List D.Access), 1 ≤ k2' ∧ k + k2' ≤ xs0.length ∧ m' = xs0.length - k - k2' ∧ ((IntKind.wrap .i64 ((kk : Int) + 1), IntKind.wrap .i64 ((k2 : Int) + 1), ()) : Int × Int × Unit) = ((kk' : Int), (k2' : Int), ()) ∧ ys.length = xs0.length ∧ ys.take kk' = M.squeeze (xs0.take (k + k2')) ∧ kk' < k + k2' ∧ (∀ i : Nat, k + k2' ≤ i + 1 → i < xs0.length → rd ys (i : Int) = rd xs0 (i : Int)) ∧ Own el63 w4 0 A0 c0 ys ∧ Chg (InB A0) w w4) fun w4 P4 e4 _ => ?_
          · rw [addr_add_zero] at st; exact st
          · refine ⟨_, by omega, kk + 1, k2 + 1, _, by omega, by omega, rfl, by rw [up64 (k := kk) (n := xs0.length) (by omega) (by omega), up64 (k := k2) (n := xs0.length) (by omega) (by omega)], by rw [List.length_set]; exact hyl, ?_, by omega, fun i h1 h2 => ?_, P4, hB.chgb e4 (Or.inr ⟨_, ha3, rfl⟩)⟩
            · rw [Int.toNat_natCast, show k + (k2 + 1) = k + k2 + 1 by omega, up, ← hyt, List.take_add_one, List.take_set_of_le (Nat.le_refl _)]
              simp [show kk < ys.length by omega]
            · rw [Int.toNat_natCast, ← hyr i (by omega) h2, rd_nat (xs := ys.set kk _) (by rw [List.length_set]; omega), rd_nat (xs := ys) (by omega), List.getElem_set_ne (by omega)]
        · have e : rd xs0 ((k + k2 : Nat) : Int) = rd xs0 ((k + k2 - 1 : Nat) : Int) := by simpa using e
          rw [if_pos e] at up
          refine ⟨_, by omega, kk, k2 + 1, ys, by omega, by omega, rfl, by rw [up64 (k := k2) (n := xs0.length) (by omega) (by omega)], hyl, ?_, by omega, fun i h1 h2 => hyr i (by omega) h2, O, hB⟩
          rw [show k + (k2 + 1) = k + k2 + 1 by omega, up]; exact hyt
      · have hk3 : k + k2 = xs0.length := by simp at h; omega
        refine ⟨by omega, by omega, ?_⟩
        rw [hk3, List.take_length, ← hr] at hyt
        have le := O.le
        refine clearCut acc_rows O (l := kk) (by omega) (by omega) fun w4 P4 e4 => ?_
        refine ⟨by omega, by omega, A0, c0, ?_, ?_, Mov.same _ _, hB.app e4 fun g h_ => Or.inr h_⟩
        · rw [← hyt, List.length_take]; congr 1; omega
        · have := P4.take kk
          rw [List.take_append_of_le_length (by rw [List.length_take]; omega), List.take_take, Nat.min_self, hyt] at this
          exact this
    · have e : ¬ rd xs0 (k : Int) = rd xs0 ((k - 1 : Nat) : Int) := by simpa using e
      rw [if_neg e] at up
      rw [up64 hk (by omega)]
      refine ⟨_, by omega, k + 1, by omega, by omega, rfl, rfl, ?_, O, hB⟩
      rw [up, hF, rd_nat hk]; simp
  · have hk : k = xs0.length := by simp at h; omega
    subst hk
    rw [List.take_length] at hF
    rw [hr, hF]
    exact ⟨A0, c0, rfl, O, Mov.same _ _, hB⟩
def spec_l33Of.vc (A0_0 : OA) (n0_0 c0_0 : Nat) (A0_1 : OA) (n0_1 c0_1 : Nat) (A0_2 : OA) (n0_2 c0_2 : Nat) (x0_3 x0_4 x1 : Int) (w : World) (K : VK) : Prop :=
  newK w (.cells (vB A0_0 n0_0 c0_0 A0_1 n0_1 c0_1 A0_2 n0_2 c0_2 x0_3 x0_4) 33) fun g21 w22 => Run Tryz.prog (Instr.buildSlice 28 0 #[]) w22 fun v23 w24 => ∃ (A25 : OA) (n26 c27 : Nat), v23 = .slice A25 n26 c27 ∧ ldB w24 (bx g21) fun A28 n29 c30 A31 n32 c33 A34 n35 c36 n37 n38 => Cl 98 #[(.agg (vB A28 n29 c30 A31 n32 c33 A34 n35 c36 n37 n38)), (iv x1)] w24 fun v39 w40 => (∃ (n41 : Int), True ∧ ∃ (n42 : Int), True ∧ ∃ (n43 : Int), True ∧ ∃ (n44 : Int), True ∧ v39 = (.agg #[(iv n41), (iv n42), (iv n43), (iv n44)]) ∧ newK w40 (.cells #[(iv 0), (iv 0), (iv 0), (iv 0)] 84) fun g45 w46 => stCells (bx g45) [(iv n41), (iv n42), (iv n43), (iv n44)] 0 w46 fun w47 => ldI w47 (((bx g45).add 0).add 0) fun n48 => Cl 99 #[(iv n48), (iv 13), (iv 15)] w47 fun v49 w50 => (∃ (b51 : Bool), v49 = (.bool b51) ∧ bcase (!b51) (K (sv A25 n26 c27) w50) (ldI w50 (((bx g45).add 1).add 0) fun n52 => JoinT (σ := Int × Unit) (fun J53 => ldI w50 (((bx g45).add 0).add 0) fun n54 => bcase (n54 == 13) (ldI w50 (((bx g45).add 2).add 0) fun n55 => J53 (n55, ()) w50) (J53 (n52, ()) w50)) fun z56 w57 => ldS w57 (((bx g21).add 1).add 0) fun A58 n59 c60 => (idx x1 n59 A58 fun a61 => ldI w57 ((a61.add ((x1.toNat) * 3)).add 0) fun n62 => ldS w57 ((a61.add ((x1.toNat) * 3)).add 1) fun A63 n64 c65 => ldS w57 ((a61.add ((x1.toNat) * 3)).add 2) fun A66 n67 c68 => Cl 100 #[(.agg #[(iv n62), (sv A63 n64 c65), (sv A66 n67 c68)])] w57 fun v69 w70 => (∃ (n71 : Int), v69 = (iv n71) ∧ Run Tryz.prog (Instr.buildSlice 24 0 #[]) w70 fun v72 w73 => ∃ (A74 : OA) (n75 c76 : Nat), v72 = .slice A74 n75 c76 ∧ LoopT (σ := (OA × Nat × Nat) × Int × Unit) (fun z77 w78 next79 => bcase (decide (z77.2.1 < 8)) (Cl 101 #[(iv n71), (iv z77.2.1)] w78 fun v80 w81 => (∃ (b82 : Bool), v80 = (.bool b82) ∧ bcase b82 (ldS w81 (((bx g21).add 1).add 0) fun A83 n84 c85 => (idx x1 n84 A83 fun a86 => ldS w81 (((a86.add ((x1.toNat) * 3)).add 2).add 0) fun A87 n88 c89 => (idx (wrap .i64 ((wrap .i64 (z77.2.1 * 4)) + z56.1)) n88 A87 fun a90 => ldI w81 ((a90.add (((wrap .i64 ((wrap .i64 (z77.2.1 * 4)) + z56.1)).toNat) * 1)).add 0) fun n91 => ((32 : Int) ≠ 0 ∧ Cl 102 #[(sv z77.1.1 z77.1.2.1 z77.1.2.2), (iv (Int.tmod n91 32))] w81 fun v92 w93 => (∃ (A94 : OA) (n95 c96 : Nat), v92 = (sv A94 n95 c96) ∧ next79 ((A94, n95, c96), (wrap .i64 (z77.2.1 + 1)), ()) w93))))) (next79 ((z77.1.1, z77.1.2.1, z77.1.2.2), (wrap .i64 (z77.2.1 + 1)), ()) w81))) (LoopT (σ := (OA × Nat × Nat) × Int × Unit) (fun z97 w98 next99 => bcase (decide (z97.2.1 < ((z77.1.2.1 : Nat) : Int))) ((∃ M100 : Nat → Prop, ldIM M100 w98 ((bx g21).add 4) 0 fun n101 => (idx z97.2.1 z77.1.2.1 z77.1.1 fun a102 => ldIM M100 w98 (a102.add ((z97.2.1.toNat) * 1)) 0 fun n103 => ldIM M100 w98 ((bx g45).add 0) 0 fun n104 => Run Tryz.prog (Instr.buildSlice 28 1 #[(0, (.agg #[(iv n101), (iv x1), (iv n103), (iv n104)]))]) w98.drew fun v105 w106 => ∃ (A107 : OA) (n108 c109 : Nat), v105 = .slice A107 n108 c109 ∧ SameBut M100 w98 w106 ∧ Run Tryz.prog (Builtin.append_ #[28, 28] 28 #[(sv z97.1.1 z97.1.2.1 z97.1.2.2), (sv A107 n108 c109)]) w106 fun v110 w111 => ∃ (A112 : OA) (n113 c114 : Nat), v110 = .slice A112 n113 c114 ∧ SameBut M100 w98 w111 ∧ next99 ((A112, n113, c114), (wrap .i64 (z97.2.1 + 1)), ()) w111))) (K (sv z97.1.1 z97.1.2.1 z97.1.2.2) w98)) ((A25, n26, c27), 0, ()) w78)) ((A74, n75, c76), 0, ()) w73)))))

def spec_l33Of.ann : Ann := (.seq .l (.seq .l (.seq .l (.seq (.seq .l (.two (.seq .l .l) .l)) (.seq .l (.cut [(7, .int .i64)] (.seq .l (.two .l .l)) (.seq .l (.seq .l (.seq (.seq .l (.one (.loop [(9, .sl), (10, .int .i64)] (.seq (.seq .l (.two .l .l)) (.seq (.one (.seq .l (.two .l .l))) .l))))) (.seq (.seq .l (.one (.loop [(5, .sl), (11, .int .i64)] (.seq (.seq .l (.two .l .l)) (.seq (.one .l) .l))))) (.seq .l .l)))))))))))

theorem spec_l33Of.con {s0 : D.Block} {A0_0 A0_1 A0_2 : OA} {c0_0 c0_1 c0_2 : Nat} {x1 : Int} {r : List D.Access} {w : World} (hp : M.spec_l33Of_pre s0 x1) (hr : r = M.spec_l33Of s0 x1) (R0_0 : Row el84 w A0_0 s0.Code) (hc0_0 : s0.Code.length ≤ c0_0) (R0_1 : RowW 52 el91 el3 w A0_1 s0.Warps) (hc0_1 : s0.Warps.length ≤ c0_1) (R0_2 : Row el3 w A0_2 s0.Memory) (hc0_2 : s0.Memory.length ≤ c0_2) :
    Cl 46 #[(.agg (bC A0_0 c0_0 A0_1 c0_1 A0_2 c0_2 s0)), (iv x1)] w (fun v_ w_ => ∃ (A0_ : OA) (c0_ : Nat), v_ = (sv A0_ r.length c0_) ∧ Own el63 w_ w.heap.size A0_ c0_ r ∧ Ext w w_) := by
 have H := wp.spec_l33Of.math s0 x1 hp
 refine begK mixed Tryz.f46 ann (vc A0_0 s0.Code.length c0_0 A0_1 s0.Warps.length c0_1 A0_2 s0.Memory.length c0_2 s0.Waiting s0.Phase x1) ?_
 unfold vc
 unfold wp.spec_l33Of at H
 refine newBlk (fun g4_ w21 L4 O4 e22 => ?_)
 have hB := ethen (Ext.refl w) e22
 refine buildOwn el63 ([] : List D.Access) (fun _ => by kernel_rfl) rfl (fun A23 w24 P5 e25 => ?_)
 have O4 := O4.ext e25
 have O5 := P5.mono hB.size
 have hB := ethen hB e25
 refine ⟨_, _, _, (O4.a 0), _, _, _, (O4.a 1), _, _, _, (O4.a 2), _, (O4.a 3), _, (O4.a 4), ?_⟩
 obtain ⟨hp28, H⟩ := H
 obtain ⟨r26, hr27, H⟩ := callO H
 refine (spec_l30Next.con hp28 hr27 (R0_0.ext hB) hc0_0 (R0_1.ext hB) hc0_1 (R0_2.ext hB) hc0_2).mono ?_
 rintro _ w29 ⟨rfl, e30⟩
 refine ⟨r26.Op, trivial, r26.A, trivial, r26.B, trivial, r26.C, trivial, rfl, ?_⟩
 refine newSt (iC r26) (fun g6_ w33 L6 O6 e34 => ?_)
 refine ⟨_, (O6.a 0), ?_⟩
 obtain ⟨r35, hr36, H⟩ := callO H
 refine (spec_l01In.con hr36 ).mono ?_
 rintro _ w38 ⟨rfl, e39⟩
 have O4 := ((O4.ext e30).ext e34).ext e39
 have O5 := ((O5.ext e30).ext e34).ext e39
 have O6 := O6.ext e39
 have hB := ethen (ethen (ethen hB e30) e34) e39
 refine ⟨r35, rfl, ?_⟩
 refine brc H (fun h H => ?_) fun h H => ?_
 ·cases hr.trans H.symm
  exact ⟨A23, 0, (by first | rfl | (simp; done) | (simp; omega) | (simp [*]; done)), (by first | exact O5 | (simp only [bC, wC, List.length_set]; exact O5)), hB⟩
 refine ⟨_, (O6.a 1), ?_⟩
 obtain ⟨K169, hKK169, H⟩ := joinP_out H
 refine ⟨fun z_ w_ => ∃ (i40 : Int), z_ = (i40, ()) ∧ K169 (i40, ()) ∧ Ext w w_ ∧ Blk w_ g4_ 33 (bC A0_0 c0_0 A0_1 c0_1 A0_2 c0_2 s0) ∧ Own el63 w_ w.heap.size A23 0 ([] : List D.Access) ∧ Blk w_ g6_ 84 (iC r26), ?_, ?_⟩
 ·refine ⟨_, (O6.a 0), ?_⟩
  refine brc H (fun h H => ?_) fun h H => ?_
  ·refine ⟨_, (O6.a 2), ?_⟩
   exact ⟨_, rfl, H, hB, O4, O5, O6⟩
  exact ⟨_, rfl, H, hB, O4, O5, O6⟩
 rintro _ w42 ⟨i40, rfl, H, hB, O4, O5, O6⟩
 have H := hKK169 _ H
 try dsimp only at H ⊢
 refine ⟨_, _, _, (O4.a 1), ?_⟩
 obtain ⟨⟨h0_48, h1_49⟩, H⟩ := H
 obtain ⟨a46, ha47, A53, c54, A55, c56, f50, f51, f52, R57, hle59, R58, hle60⟩ := RowW.at R0_1 h0_48 h1_49
 refine ⟨h0_48, h1_49, a46, ha47, _, (Ext.cell hB f50), _, _, _, (Ext.cell hB f51), _, _, _, (Ext.cell hB f52), ?_⟩
 obtain ⟨hp63, H⟩ := H
 obtain ⟨r61, hr62, H⟩ := callO H
 refine (cllA (spec_ActiveMask.con hp63 hr62 (R57.ext hB) hle59 (R58.ext hB) hle60)).mono ?_
 rintro _ w64 ⟨rfl, e65⟩
 have hB := ethen hB e65
 refine ⟨r61, rfl, ?_⟩
 refine buildOwn el3 ([] : List Int) (fun _ => by kernel_rfl) rfl (fun A66 w67 P9 e68 => ?_)
 have O4 := (O4.ext e65).ext e68
 have O5 := (O5.ext e65).ext e68
 have O6 := (O6.ext e65).ext e68
 have O9 := P9.mono hB.size
 have hB := ethen hB e68
 obtain ⟨J74, ⟨m166, hJ165⟩, hS75⟩ := H
 refine ⟨fun m_ z_ w_ => ∃ (xs69 : List Int) (i72 : Int) (A70 : OA) (c71 : Nat), z_ = ((A70, xs69.length, c71), i72, ()) ∧ J74 m_ (xs69, i72, ()) ∧ Ext w w_ ∧ Own el3 w_ w.heap.size A70 c71 xs69 ∧ Blk w_ g4_ 33 (bC A0_0 c0_0 A0_1 c0_1 A0_2 c0_2 s0) ∧ Own el63 w_ w.heap.size A23 0 ([] : List D.Access) ∧ Blk w_ g6_ 84 (iC r26), ⟨m166, ([] : List Int), 0, A66, 0, rfl, hJ165, hB, O9, O4, O5, O6⟩, ?_⟩
 rintro m73 _ w77 ⟨xs69, i72, A70, c71, rfl, hJ167, hB, O10, O4, O5, O6⟩
 have H := hS75 m73 _ hJ167
 clear hS75 hJ167
 try dsimp only at H ⊢
 refine brc H (fun h H => ?_) fun h H => ?_
 ·obtain ⟨r78, hr79, H⟩ := callO H
  refine (spec_HasLane.con hr79 ).mono ?_
  rintro _ w81 ⟨rfl, e82⟩
  have O4 := O4.ext e82
  have O5 := O5.ext e82
  have O6 := O6.ext e82
  have O10 := O10.ext e82
  have hB := ethen hB e82
  refine ⟨r78, rfl, ?_⟩
  refine brc H (fun h H => ?_) fun h H => ?_
  ·refine ⟨_, _, _, (O4.a 1), ?_⟩
   obtain ⟨⟨h0_86, h1_87⟩, H⟩ := H
   obtain ⟨a84, ha85, A91, c92, A93, c94, f88, f89, f90, R95, hle97, R96, hle98⟩ := RowW.at R0_1 h0_86 h1_87
   refine ⟨h0_86, h1_87, a84, ha85, _, _, _, (Ext.cell hB f90), ?_⟩
   obtain ⟨⟨h0_102, h1_103⟩, H⟩ := H
   obtain ⟨a100, ha101, hat99⟩ := Row.at (R96.ext hB) h0_102 h1_103
   refine ⟨h0_102, (by first | exact h1_103 | omega | (simp at h1_103 ⊢; omega)), a100, ha101, _, (hat99 0 _ rfl), by decide, ?_⟩
   obtain ⟨hp107, H⟩ := H
   obtain ⟨r105, hr106, H⟩ := callO H
   refine (spec_l04Put.con hp107 hr106 (O10.mono (Nat.zero_le _))).mono ?_
   rintro _ w108 ⟨A110, c111, rfl, P13, Mv13, e109⟩
   have Lw13 := Mv13.low O10.low hB.size
   have O4 := O4.chgS e109 ((O10.apart_type O4 (by decide))).inb
   have O5 := O5.chgS e109 ((Own.apart2_type O5 O10 (by decide))).inb
   have O6 := O6.chgS e109 ((O10.apart_type O6 (by decide))).inb
   have hB := Chg.ext hB e109 O10.low
   have O13 := P13.lift Lw13
   refine ⟨A110, r105.length, c111, rfl, ?_⟩
   obtain ⟨m112, hm113, hJ114⟩ := H
   exact ⟨m112, hm113, r105, _, A110, c111, rfl, hJ114, hB, O13, O4, O5, O6⟩
  obtain ⟨m115, hm116, hJ117⟩ := H
  exact ⟨m115, hm116, xs69, _, A70, c71, rfl, hJ117, hB, O10, O4, O5, O6⟩
 obtain ⟨J124, ⟨m161, hJ160⟩, hS125⟩ := H
 refine ⟨fun m_ z_ w_ => ∃ (xs119 : List D.Access) (i122 : Int) (A120 : OA) (c121 : Nat), z_ = ((A120, xs119.length, c121), i122, ()) ∧ J124 m_ (xs119, i122, ()) ∧ Ext w w_ ∧ Own el63 w_ w.heap.size A120 c121 xs119 ∧ Blk w_ g4_ 33 (bC A0_0 c0_0 A0_1 c0_1 A0_2 c0_2 s0) ∧ Blk w_ g6_ 84 (iC r26) ∧ Own el3 w_ w.heap.size A70 c71 xs69, ⟨m161, ([] : List D.Access), 0, A23, 0, rfl, hJ160, hB, O5, O4, O6, O10⟩, ?_⟩
 rintro m123 _ w127 ⟨xs119, i122, A120, c121, rfl, hJ162, hB, O14, O4, O6, O10⟩
 have H := hS125 m123 _ hJ162
 clear hS125 hJ162
 try dsimp only at H ⊢
 refine brc H (fun h H => ?_) fun h H => ?_
 ·refine ⟨(InB A120), _, ⟨(notM1 ((O14.apart_type O4 (by decide))).inb (by first | rfl | (simp only [blk_add]))), (O4.a 4)⟩, ?_⟩
  obtain ⟨⟨h0_145, h1_146⟩, H⟩ := H
  obtain ⟨a143, ha144, hat142⟩ := Row.at O10.row h0_145 h1_146
  refine ⟨h0_145, h1_146, a143, ha144, _, ⟨(notM1 (((Own.apart2_type O10 O14 (by decide))).inb _ ⟨_, ha144, rfl⟩) (by first | rfl | (simp only [blk_add]))), (hat142 0 _ rfl)⟩, _, ⟨(notM1 ((O14.apart_type O6 (by decide))).inb (by first | rfl | (simp only [blk_add]))), (O6.a 0)⟩, ?_⟩
  have hB := ethen hB (Ext.drew _)
  refine buildOwn el63 ([(⟨s0.Phase, x1, (rd xs69 i122), r26.Op⟩ : D.Access)] : List D.Access) (fun _ => by kernel_rfl) rfl (fun A147 w148 P16 e149 => ?_)
  have O4 := (O4.ext (Ext.drew _)).ext e149
  have O6 := (O6.ext (Ext.drew _)).ext e149
  have O10 := (O10.ext (Ext.drew _)).ext e149
  have O14 := (O14.ext (Ext.drew _)).ext e149
  have O16 := P16.mono hB.size
  have hB := ethen hB e149
  have hS128 := ((Chg.refl (InB A120) w127).then (Ext.drew _)).then e149
  refine ⟨sameBut_chg hS128, ?_⟩
  obtain ⟨hl154, H⟩ := H
  refine appO slt28 O14 O16.row hB.size hl154 (fun A150 c151 w152 P14 e153 => ?_)
  have O4 := O4.app e153 (O14.apart_type O4 (by decide))
  have O6 := O6.app e153 (O14.apart_type O6 (by decide))
  have O10 := O10.app e153 (Own.apart2_type O10 O14 (by decide))
  have hS128 := hS128.app e153 (fun g h_ => (Or.inr h_))
  have hB := eapp hB e153 O14
  have O14 := P14
  refine ⟨sameBut_chg hS128, ?_⟩
  obtain ⟨m155, hm156, hJ157⟩ := H
  exact ⟨m155, hm156, _, _, A150, c151, rfl, hJ157, hB, O14, O4, O6, O10⟩
 cases hr.trans H.symm
 exact ⟨A120, c121, rfl, O14, hB⟩
def spec_AccessesOf.vc (A0_0 : OA) (n0_0 c0_0 : Nat) (A0_1 : OA) (n0_1 c0_1 : Nat) (A0_2 : OA) (n0_2 c0_2 : Nat) (x0_3 x0_4 x1 : Int) (w : World) (K : VK) : Prop :=
  newK w (.cells (vB A0_0 n0_0 c0_0 A0_1 n0_1 c0_1 A0_2 n0_2 c0_2 x0_3 x0_4) 33) fun g21 w22 => ldB w22 (bx g21) fun A23 n24 c25 A26 n27 c28 A29 n30 c31 n32 n33 => Cl 22 #[(.agg (vB A23 n24 c25 A26 n27 c28 A29 n30 c31 n32 n33)), (iv x1)] w22 fun v34 w35 => (∃ (b36 : Bool), v34 = (.bool b36) ∧ bcase (!b36) (Run Tryz.prog (Instr.buildSlice 28 0 #[]) w35 fun v37 w38 => ∃ (A39 : OA) (n40 c41 : Nat), v37 = .slice A39 n40 c41 ∧ K (sv A39 n40 c41) w38) (ldB w35 (bx g21) fun A42 n43 c44 A45 n46 c47 A48 n49 c50 n51 n52 => Cl 46 #[(.agg (vB A42 n43 c44 A45 n46 c47 A48 n49 c50 n51 n52)), (iv x1)] w35 fun v53 w54 => (∃ (A55 : OA) (n56 c57 : Nat), v53 = (sv A55 n56 c57) ∧ K (sv A55 n56 c57) w54)))

def spec_AccessesOf.ann : Ann := (.seq .l (.seq (.seq .l (.two (.seq .l .l) .l)) (.seq .l .l)))

theorem spec_AccessesOf.con {s0 : D.Block} {A0_0 A0_1 A0_2 : OA} {c0_0 c0_1 c0_2 : Nat} {x1 : Int} {r : List D.Access} {w : World} (hp : M.spec_AccessesOf_pre s0 x1) (hr : r = M.spec_AccessesOf s0 x1) (R0_0 : Row el84 w A0_0 s0.Code) (hc0_0 : s0.Code.length ≤ c0_0) (R0_1 : RowW 52 el91 el3 w A0_1 s0.Warps) (hc0_1 : s0.Warps.length ≤ c0_1) (R0_2 : Row el3 w A0_2 s0.Memory) (hc0_2 : s0.Memory.length ≤ c0_2) :
    Cl 10 #[(.agg (bC A0_0 c0_0 A0_1 c0_1 A0_2 c0_2 s0)), (iv x1)] w (fun v_ w_ => ∃ (A0_ : OA) (c0_ : Nat), v_ = (sv A0_ r.length c0_) ∧ Own el63 w_ w.heap.size A0_ c0_ r ∧ Ext w w_) := by
 have H := wp.spec_AccessesOf.math s0 x1 hp
 refine begK mixed Tryz.f10 ann (vc A0_0 s0.Code.length c0_0 A0_1 s0.Warps.length c0_1 A0_2 s0.Memory.length c0_2 s0.Waiting s0.Phase x1) ?_
 unfold vc
 unfold wp.spec_AccessesOf at H
 refine newBlk (fun g4_ w21 L4 O4 e22 => ?_)
 have hB := ethen (Ext.refl w) e22
 refine ⟨_, _, _, (O4.a 0), _, _, _, (O4.a 1), _, _, _, (O4.a 2), _, (O4.a 3), _, (O4.a 4), ?_⟩
 obtain ⟨hp25, H⟩ := H
 obtain ⟨r23, hr24, H⟩ := callO H
 refine (spec_CanStep.con hp25 hr24 (R0_0.ext hB) hc0_0 (R0_1.ext hB) hc0_1 (R0_2.ext hB) hc0_2).mono ?_
 rintro _ w26 ⟨rfl, e27⟩
 have O4 := O4.ext e27
 have hB := ethen hB e27
 refine ⟨r23, rfl, ?_⟩
 refine brc H (fun h H => ?_) fun h H => ?_
 ·refine buildOwn el63 ([] : List D.Access) (fun _ => by kernel_rfl) rfl (fun A28 w29 P5 e30 => ?_)
  have O5 := P5.mono hB.size
  have hB := ethen hB e30
  cases hr.trans H.symm
  exact ⟨A28, 0, (by first | rfl | (simp; done) | (simp; omega) | (simp [*]; done)), (by first | exact O5 | (simp only [bC, wC, List.length_set]; exact O5)), hB⟩
 refine ⟨_, _, _, (O4.a 0), _, _, _, (O4.a 1), _, _, _, (O4.a 2), _, (O4.a 3), _, (O4.a 4), ?_⟩
 obtain ⟨hp33, H⟩ := H
 obtain ⟨r31, hr32, H⟩ := callO H
 refine (spec_l33Of.con hp33 hr32 (R0_0.ext hB) hc0_0 (R0_1.ext hB) hc0_1 (R0_2.ext hB) hc0_2).mono ?_
 rintro _ w34 ⟨A36, c37, rfl, P6, e35⟩
 have O6 := P6.mono hB.size
 have hB := ethen hB e35
 refine ⟨A36, r31.length, c37, rfl, ?_⟩
 cases hr.trans H.symm
 exact ⟨A36, c37, rfl, O6, hB⟩
def impl_Block_accesses.vc (A0_0 : OA) (n0_0 c0_0 : Nat) (A0_1 : OA) (n0_1 c0_1 : Nat) (A0_2 : OA) (n0_2 c0_2 : Nat) (x0_3 x0_4 x1 : Int) (w : World) (K : VK) : Prop :=
  newK w (.cells (vB A0_0 n0_0 c0_0 A0_1 n0_1 c0_1 A0_2 n0_2 c0_2 x0_3 x0_4) 33) fun g21 w22 => ldB w22 (bx g21) fun A23 n24 c25 A26 n27 c28 A29 n30 c31 n32 n33 => Cl 68 #[(.agg (vB A23 n24 c25 A26 n27 c28 A29 n30 c31 n32 n33)), (iv x1)] w22 fun v34 w35 => (∃ u36 : Value, (∃ (n37 : Int), True ∧ ∃ (n38 : Int), True ∧ ∃ (n39 : Int), True ∧ ∃ (n40 : Int), True ∧ u36 = (.agg #[(iv n37), (iv n38), (iv n39), (iv n40)]) ∧ ∃ u41 : Value, (∃ (b42 : Bool), u41 = (.bool b42) ∧ v34 = (.tuple #[(.agg #[(iv n37), (iv n38), (iv n39), (iv n40)]), (.bool b42)]) ∧ newK w35 (.cells #[(iv 0), (iv 0), (iv 0), (iv 0)] 84) fun g43 w44 => stCells (bx g43) [(iv n37), (iv n38), (iv n39), (iv n40)] 0 w44 fun w45 => Run Tryz.prog (Instr.buildSlice 28 0 #[]) w45 fun v46 w47 => ∃ (A48 : OA) (n49 c50 : Nat), v46 = .slice A48 n49 c50 ∧ ldS w47 (((bx g21).add 1).add 0) fun A51 n52 c53 => (idx x1 n52 A51 fun a54 => ldI w47 ((a54.add ((x1.toNat) * 3)).add 0) fun n55 => ldS w47 ((a54.add ((x1.toNat) * 3)).add 1) fun A56 n57 c58 => ldS w47 ((a54.add ((x1.toNat) * 3)).add 2) fun A59 n60 c61 => Cl 106 #[(.agg #[(iv n55), (sv A56 n57 c58), (sv A59 n60 c61)])] w47 fun v62 w63 => (∃ (n64 : Int), v62 = (iv n64) ∧ Cl 105 #[(iv n64)] w63 fun v65 w66 => (∃ (A67 : OA) (n68 c69 : Nat), v65 = (sv A67 n68 c69) ∧ LoopT (σ := (OA × Nat × Nat) × Int × Unit) (fun z70 w71 next72 => bcase (decide (z70.2.1 < ((n68 : Nat) : Int))) ((idx z70.2.1 n68 A67 fun a73 => ldI w71 ((a73.add ((z70.2.1.toNat) * 1)).add 0) fun n74 => ldI w71 (((bx g21).add 4).add 0) fun n75 => ldI w71 (((bx g43).add 0).add 0) fun n76 => newK w71 (.cells #[(iv 0), (iv 0), (iv 0), (iv 0)] 63) fun g77 w78 => stCells (bx g77) [(iv n75), (iv x1), (iv 0), (iv n76)] 0 w78 fun w79 => ldS w79 (((bx g21).add 1).add 0) fun A80 n81 c82 => (idx x1 n81 A80 fun a83 => ldI w79 ((a83.add ((x1.toNat) * 3)).add 0) fun n84 => ldS w79 ((a83.add ((x1.toNat) * 3)).add 1) fun A85 n86 c87 => ldS w79 ((a83.add ((x1.toNat) * 3)).add 2) fun A88 n89 c90 => Cl 107 #[(.agg #[(iv n84), (sv A85 n86 c87), (sv A88 n89 c90)]), (iv n74)] w79 fun v91 w92 => (∃ (A93 : OA) (n94 c95 : Nat), v91 = (sv A93 n94 c95) ∧ ldI w92 (((bx g43).add 0).add 0) fun n96 => bcase (n96 == 13) (ldI w92 (((bx g43).add 2).add 0) fun n97 => (idx n97 n94 A93 fun a98 => ldI w92 ((a98.add ((n97.toNat) * 1)).add 0) fun n99 => ((32 : Int) ≠ 0 ∧ stCells ((bx g77).add 2) [(iv (Int.tmod n99 32))] 0 w92 fun w100 => ldI w100 ((bx g77).add 0) fun n101 => ldI w100 ((bx g77).add 1) fun n102 => ldI w100 ((bx g77).add 2) fun n103 => ldI w100 ((bx g77).add 3) fun n104 => Run Tryz.prog (Instr.buildSlice 28 1 #[(0, (.agg #[(iv n101), (iv n102), (iv n103), (iv n104)]))]) w100 fun v105 w106 => ∃ (A107 : OA) (n108 c109 : Nat), v105 = .slice A107 n108 c109 ∧ Run Tryz.prog (Builtin.append_ #[28, 28] 28 #[(sv z70.1.1 z70.1.2.1 z70.1.2.2), (sv A107 n108 c109)]) w106 fun v110 w111 => ∃ (A112 : OA) (n113 c114 : Nat), v110 = .slice A112 n113 c114 ∧ next72 ((A112, n113, c114), (wrap .i64 (z70.2.1 + 1)), ()) w111))) (JoinT (σ := Bool × Unit) (fun J115 => bcase (n96 == 14) (J115 (true, ()) w92) (J115 ((n96 == 15), ()) w92)) fun z116 w117 => bcase z116.1 (ldI w117 (((bx g43).add 1).add 0) fun n118 => (idx n118 n94 A93 fun a119 => ldI w117 ((a119.add ((n118.toNat) * 1)).add 0) fun n120 => ((32 : Int) ≠ 0 ∧ stCells ((bx g77).add 2) [(iv (Int.tmod n120 32))] 0 w117 fun w121 => ldI w121 ((bx g77).add 0) fun n122 => ldI w121 ((bx g77).add 1) fun n123 => ldI w121 ((bx g77).add 2) fun n124 => ldI w121 ((bx g77).add 3) fun n125 => Run Tryz.prog (Instr.buildSlice 28 1 #[(0, (.agg #[(iv n122), (iv n123), (iv n124), (iv n125)]))]) w121 fun v126 w127 => ∃ (A128 : OA) (n129 c130 : Nat), v126 = .slice A128 n129 c130 ∧ Run Tryz.prog (Builtin.append_ #[28, 28] 28 #[(sv z70.1.1 z70.1.2.1 z70.1.2.2), (sv A128 n129 c130)]) w127 fun v131 w132 => ∃ (A133 : OA) (n134 c135 : Nat), v131 = .slice A133 n134 c135 ∧ next72 ((A133, n134, c135), (wrap .i64 (z70.2.1 + 1)), ()) w132))) (K (sv z70.1.1 z70.1.2.1 z70.1.2.2) w117)))))) (Cl 108 #[(sv z70.1.1 z70.1.2.1 z70.1.2.2), (.func (.func 109) #[] #[])] w71 fun v136 w137 => (v136 = (.tuple #[]) ∧ Cl 111 #[(sv z70.1.1 z70.1.2.1 z70.1.2.2)] w137 fun v138 w139 => (∃ (A140 : OA) (n141 c142 : Nat), v138 = (sv A140 n141 c142) ∧ K (sv A140 n141 c142) w139)))) ((A48, n49, c50), 0, ()) w66))))))

def impl_Block_accesses.ann : Ann := (.seq .l (.seq .l (.seq .l (.seq (.seq .l (.one (.loop [(7, .sl), (27, .int .i64)] (.seq .l (.seq (.two .l .l) (.seq (.one (.seq .l (.seq .l (.seq .l (.seq (.seq .l (.one (.seq .l (.two .l (.cut [(56, .bool)] (.seq .l (.two .l .l)) (.two .l (.seq .l .l))))))) .l))))) .l)))))) (.seq .l (.seq .l .l))))))

theorem impl_Block_accesses.con {s0 : D.Block} {A0_0 A0_1 A0_2 : OA} {c0_0 c0_1 c0_2 : Nat} {x1 : Int} {r : List D.Access} {w : World} (hp : M.impl_Block_accesses_pre s0 x1) (hr : r = M.impl_Block_accesses s0 x1) (R0_0 : Row el84 w A0_0 s0.Code) (hc0_0 : s0.Code.length ≤ c0_0) (R0_1 : RowW 52 el91 el3 w A0_1 s0.Warps) (hc0_1 : s0.Warps.length ≤ c0_1) (R0_2 : Row el3 w A0_2 s0.Memory) (hc0_2 : s0.Memory.length ≤ c0_2) :
    Cl 50 #[(.agg (bC A0_0 c0_0 A0_1 c0_1 A0_2 c0_2 s0)), (iv x1)] w (fun v_ w_ => ∃ (A0_ : OA) (c0_ : Nat), v_ = (sv A0_ r.length c0_) ∧ Own el63 w_ w.heap.size A0_ c0_ r ∧ Ext w w_) := by
 have H := wp.impl_Block_accesses.math s0 x1 hp
 refine begK mixed Tryz.f50 ann (vc A0_0 s0.Code.length c0_0 A0_1 s0.Warps.length c0_1 A0_2 s0.Memory.length c0_2 s0.Waiting s0.Phase x1) ?_
 unfold vc
 unfold wp.impl_Block_accesses at H
 refine newBlk (fun g4_ w21 L4 O4 e22 => ?_)
 have hB := ethen (Ext.refl w) e22
 refine ⟨_, _, _, (O4.a 0), _, _, _, (O4.a 1), _, _, _, (O4.a 2), _, (O4.a 3), _, (O4.a 4), ?_⟩
 obtain ⟨hp25, H⟩ := H
 obtain ⟨r23, hr24, H⟩ := callO H
 refine (impl_Block_nextIns.con hp25 hr24 (R0_0.ext hB) hc0_0 (R0_1.ext hB) hc0_1 (R0_2.ext hB) hc0_2).mono ?_
 rintro _ w26 ⟨rfl, e27⟩
 refine ⟨(.agg (iC r23.1)), r23.1.Op, trivial, r23.1.A, trivial, r23.1.B, trivial, r23.1.C, trivial, rfl, (.bool r23.2), r23.2, rfl, rfl, ?_⟩
 refine newSt (iC r23.1) (fun g5_ w30 L5 O5 e31 => ?_)
 have hB := ethen (ethen hB e27) e31
 refine buildOwn el63 ([] : List D.Access) (fun _ => by kernel_rfl) rfl (fun A32 w33 P6 e34 => ?_)
 have O4 := ((O4.ext e27).ext e31).ext e34
 have O6 := P6.mono hB.size
 have hB := ethen hB e34
 refine ⟨_, _, _, (O4.a 1), ?_⟩
 obtain ⟨⟨h0_38, h1_39⟩, H⟩ := H
 obtain ⟨a36, ha37, A43, c44, A45, c46, f40, f41, f42, R47, hle49, R48, hle50⟩ := RowW.at R0_1 h0_38 h1_39
 refine ⟨h0_38, h1_39, a36, ha37, _, (Ext.cell hB f40), _, _, _, (Ext.cell hB f41), _, _, _, (Ext.cell hB f42), ?_⟩
 obtain ⟨hp53, H⟩ := H
 obtain ⟨r51, hr52, H⟩ := callO H
 refine (cllA (impl_ActiveMask.con hp53 hr52 (R47.ext hB) hle49 (R48.ext hB) hle50)).mono ?_
 rintro _ w54 ⟨rfl, e55⟩
 have hB := ethen hB e55
 refine ⟨r51, rfl, ?_⟩
 obtain ⟨r56, hr57, H⟩ := callO H
 refine (impl_LanesOf.con hr57 ).mono ?_
 rintro _ w59 ⟨A61, c62, rfl, P9, e60⟩
 have O4 := (O4.ext e55).ext e60
 have O5 := ((O5.ext e34).ext e55).ext e60
 have O6 := (O6.ext e55).ext e60
 have O9 := P9.mono hB.size
 have hB := ethen hB e60
 refine ⟨A61, r56.length, c62, rfl, ?_⟩
 obtain ⟨J68, ⟨m163, hJ162⟩, hS69⟩ := H
 refine ⟨fun m_ z_ w_ => ∃ (xs63 : List D.Access) (i66 : Int) (A64 : OA) (c65 : Nat), z_ = ((A64, xs63.length, c65), i66, ()) ∧ J68 m_ (xs63, i66, ()) ∧ Ext w w_ ∧ Own el63 w_ w.heap.size A64 c65 xs63 ∧ Blk w_ g4_ 33 (bC A0_0 c0_0 A0_1 c0_1 A0_2 c0_2 s0) ∧ Blk w_ g5_ 84 (iC r23.1) ∧ Own el3 w_ w.heap.size A61 c62 r56, ⟨m163, ([] : List D.Access), 0, A32, 0, rfl, hJ162, hB, O6, O4, O5, O9⟩, ?_⟩
 rintro m67 _ w71 ⟨xs63, i66, A64, c65, rfl, hJ164, hB, O10, O4, O5, O9⟩
 have H := hS69 m67 _ hJ164
 clear hS69 hJ164
 try dsimp only at H ⊢
 refine brc H (fun h H => ?_) fun h H => ?_
 ·obtain ⟨⟨h0_75, h1_76⟩, H⟩ := H
  obtain ⟨a73, ha74, hat72⟩ := Row.at O9.row h0_75 h1_76
  refine ⟨h0_75, h1_76, a73, ha74, _, (hat72 0 _ rfl), _, (O4.a 4), _, (O5.a 0), ?_⟩
  refine newSt #[(iv s0.Phase), (iv x1), (iv 0), (iv r23.1.Op)] (fun g11_ w79 L11 P11 e80 => ?_)
  have N4_11 := O4.ne L11
  have N5_11 := O5.ne L11
  have N9_11 := O9.apart_new L11
  have N10_11 := O10.apart_new L11
  have O4 := O4.ext e80
  have L11 := Nat.le_trans hB.size L11
  have hB := ethen hB e80
  refine ⟨_, _, _, (O4.a 1), ?_⟩
  obtain ⟨⟨h0_84, h1_85⟩, H⟩ := H
  obtain ⟨a82, ha83, A89, c90, A91, c92, f86, f87, f88, R93, hle95, R94, hle96⟩ := RowW.at R0_1 h0_84 h1_85
  refine ⟨h0_84, h1_85, a82, ha83, _, (Ext.cell hB f86), _, _, _, (Ext.cell hB f87), _, _, _, (Ext.cell hB f88), ?_⟩
  obtain ⟨hp97, H⟩ := H
  refine (cllA (impl_Warp_lane.con hp97 (R93.ext hB) hle95 (R94.ext hB) hle96)).mono ?_
  rintro _ w98 ⟨rfl, e99⟩
  have O4 := O4.ext e99
  have O5 := (O5.ext e80).ext e99
  have O9 := (O9.ext e80).ext e99
  have O10 := (O10.ext e80).ext e99
  have O11 := P11.ext e99
  have hB := ethen hB e99
  have R14_ := (R94.take ((wrap .i64 ((wrap .i64 ((rd r56 i66) + 1)) * 4)).toNat)).drop (l := ((wrap .i64 ((rd r56 i66) * 4)).toNat)) (m := c92) (by have := hle96; simp; omega)
  have le14_ : (List.drop ((wrap .i64 ((rd r56 i66) * 4)).toNat) (List.take ((wrap .i64 ((wrap .i64 ((rd r56 i66) + 1)) * 4)).toNat) ((rd s0.Warps x1).Regs))).length ≤ (c92 - ((wrap .i64 ((rd r56 i66) * 4)).toNat)) := by have := hle96; simp; omega
  refine ⟨(cutA c92 ((wrap .i64 ((rd r56 i66) * 4)).toNat) A91 1), (List.drop ((wrap .i64 ((rd r56 i66) * 4)).toNat) (List.take ((wrap .i64 ((wrap .i64 ((rd r56 i66) + 1)) * 4)).toNat) ((rd s0.Warps x1).Regs))).length, (c92 - ((wrap .i64 ((rd r56 i66) * 4)).toNat)), rfl, _, (O5.a 0), ?_⟩
  refine brc H (fun h H => ?_) fun h H => ?_
  ·refine ⟨_, (O5.a 2), ?_⟩
   obtain ⟨⟨h0_103, h1_104⟩, H⟩ := H
   obtain ⟨a101, ha102, hat100⟩ := Row.at (R14_.ext hB) h0_103 h1_104
   refine ⟨h0_103, h1_104, a101, ha102, _, (hat100 0 _ rfl), by decide, ?_⟩
   refine stBlk O11 (o := 2) (cs' := #[(iv s0.Phase), (iv x1), (iv (Int.tmod (rd (List.drop ((wrap .i64 ((rd r56 i66) * 4)).toNat) (List.take ((wrap .i64 ((wrap .i64 ((rd r56 i66) + 1)) * 4)).toNat) ((rd s0.Warps x1).Regs))) r23.1.B) 32)), (iv r23.1.Op)]) rfl rfl (Nat.le_of_ble_eq_true rfl) rfl (fun w106 O11 e107 => ?_)
   have hB := echg hB e107 L11
   refine ⟨_, (O11.a 0), _, (O11.a 1), _, (O11.a 2), _, (O11.a 3), ?_⟩
   refine buildOwn el63 ([(⟨s0.Phase, x1, (Int.tmod (rd (List.drop ((wrap .i64 ((rd r56 i66) * 4)).toNat) (List.take ((wrap .i64 ((wrap .i64 ((rd r56 i66) + 1)) * 4)).toNat) ((rd s0.Warps x1).Regs))) r23.1.B) 32), r23.1.Op⟩ : D.Access)] : List D.Access) (fun _ => by kernel_rfl) rfl (fun A108 w109 P15 e110 => ?_)
   have O4 := (O4.chg e107 N4_11).ext e110
   have O5 := (O5.chg e107 N5_11).ext e110
   have O9 := (O9.chg e107 N9_11).ext e110
   have O10 := (O10.chg e107 N10_11).ext e110
   have O15 := P15.mono hB.size
   have hB := ethen hB e110
   obtain ⟨hl115, H⟩ := H
   refine appO slt28 O10 O15.row hB.size hl115 (fun A111 c112 w113 P10 e114 => ?_)
   have O4 := O4.app e114 (O10.apart_type O4 (by decide))
   have O5 := O5.app e114 (O10.apart_type O5 (by decide))
   have O9 := O9.app e114 (Own.apart2_type O9 O10 (by decide))
   have hB := eapp hB e114 O10
   have O10 := P10
   obtain ⟨m116, hm117, hJ118⟩ := H
   exact ⟨m116, hm117, _, _, A111, c112, rfl, hJ118, hB, O10, O4, O5, O9⟩
  obtain ⟨K145, hKK145, H⟩ := joinP_out H
  refine ⟨fun z_ w_ => ∃ (b119 : Bool), z_ = (b119, ()) ∧ K145 (b119, ()) ∧ Ext w w_ ∧ Blk w_ g4_ 33 (bC A0_0 c0_0 A0_1 c0_1 A0_2 c0_2 s0) ∧ Blk w_ g5_ 84 (iC r23.1) ∧ Own el3 w_ w.heap.size A61 c62 r56 ∧ Own el63 w_ w.heap.size A64 c65 xs63 ∧ Blk w_ g11_ 63 #[(iv s0.Phase), (iv x1), (iv 0), (iv r23.1.Op)], ?_, ?_⟩
  ·refine brc H (fun h H => ?_) fun h H => ?_
   ·exact ⟨true, rfl, H, hB, O4, O5, O9, O10, O11⟩
   exact ⟨_, rfl, H, hB, O4, O5, O9, O10, O11⟩
  rintro _ w121 ⟨b119, rfl, H, hB, O4, O5, O9, O10, O11⟩
  have H := hKK145 _ H
  try dsimp only at H ⊢
  refine brc H (fun h H => ?_) fun h H => ?_
  ·refine ⟨_, (O5.a 1), ?_⟩
   obtain ⟨⟨h0_127, h1_128⟩, H⟩ := H
   obtain ⟨a125, ha126, hat124⟩ := Row.at (R14_.ext hB) h0_127 h1_128
   refine ⟨h0_127, h1_128, a125, ha126, _, (hat124 0 _ rfl), by decide, ?_⟩
   refine stBlk O11 (o := 2) (cs' := #[(iv s0.Phase), (iv x1), (iv (Int.tmod (rd (List.drop ((wrap .i64 ((rd r56 i66) * 4)).toNat) (List.take ((wrap .i64 ((wrap .i64 ((rd r56 i66) + 1)) * 4)).toNat) ((rd s0.Warps x1).Regs))) r23.1.A) 32)), (iv r23.1.Op)]) rfl rfl (Nat.le_of_ble_eq_true rfl) rfl (fun w130 O11 e131 => ?_)
   have hB := echg hB e131 L11
   refine ⟨_, (O11.a 0), _, (O11.a 1), _, (O11.a 2), _, (O11.a 3), ?_⟩
   refine buildOwn el63 ([(⟨s0.Phase, x1, (Int.tmod (rd (List.drop ((wrap .i64 ((rd r56 i66) * 4)).toNat) (List.take ((wrap .i64 ((wrap .i64 ((rd r56 i66) + 1)) * 4)).toNat) ((rd s0.Warps x1).Regs))) r23.1.A) 32), r23.1.Op⟩ : D.Access)] : List D.Access) (fun _ => by kernel_rfl) rfl (fun A132 w133 P16 e134 => ?_)
   have O4 := (O4.chg e131 N4_11).ext e134
   have O5 := (O5.chg e131 N5_11).ext e134
   have O9 := (O9.chg e131 N9_11).ext e134
   have O10 := (O10.chg e131 N10_11).ext e134
   have O16 := P16.mono hB.size
   have hB := ethen hB e134
   obtain ⟨hl139, H⟩ := H
   refine appO slt28 O10 O16.row hB.size hl139 (fun A135 c136 w137 P10 e138 => ?_)
   have O4 := O4.app e138 (O10.apart_type O4 (by decide))
   have O5 := O5.app e138 (O10.apart_type O5 (by decide))
   have O9 := O9.app e138 (Own.apart2_type O9 O10 (by decide))
   have hB := eapp hB e138 O10
   have O10 := P10
   obtain ⟨m140, hm141, hJ142⟩ := H
   exact ⟨m140, hm141, _, _, A135, c136, rfl, hJ142, hB, O10, O4, O5, O9⟩
  cases hr.trans H.symm
  exact ⟨A64, c65, rfl, O10, hB⟩
 obtain ⟨hp149, H⟩ := H
 obtain ⟨r147, hr148, H⟩ := callO H
 refine (slices_SortFunc_impl_Access_impl_Access.con hp149 hr148 (O10.mono (Nat.zero_le _)) (fun z0_ z1_ h_ w_ e_ => cllApp (l1 := [_, _]) (l2 := []) (impl_Block_accesses_1.con h_ rfl))).mono ?_
 rintro _ w150 ⟨rfl, Q10, hl152, e151⟩
 have hB := Chg.ext hB e151 O10.low
 have O10 := Q10.up O10
 refine ⟨rfl, ?_⟩
 obtain ⟨hp155, H⟩ := H
 obtain ⟨r153, hr154, H⟩ := callO H
 refine (cllArgs (by first | (simp only [bC, wC, List.length_set, hl152]; done) | (simp; done)) (slices_Compact_impl_Access_impl_Access.con hp155 hr154 (O10.mono (Nat.zero_le _)))).mono ?_
 rintro _ w156 ⟨A158, c159, rfl, P17, Mv17, e157⟩
 have Lw17 := Mv17.low O10.low hB.size
 have hB := Chg.ext hB e157 O10.low
 have O17 := P17.lift Lw17
 refine ⟨A158, r153.length, c159, rfl, ?_⟩
 cases hr.trans H.symm
 exact ⟨A158, c159, rfl, O17, hB⟩
def impl_AccessesOf.vc (A0_0 : OA) (n0_0 c0_0 : Nat) (A0_1 : OA) (n0_1 c0_1 : Nat) (A0_2 : OA) (n0_2 c0_2 : Nat) (x0_3 x0_4 x1 : Int) (w : World) (K : VK) : Prop :=
  newK w (.cells (vB A0_0 n0_0 c0_0 A0_1 n0_1 c0_1 A0_2 n0_2 c0_2 x0_3 x0_4) 33) fun g21 w22 => ldB w22 (bx g21) fun A23 n24 c25 A26 n27 c28 A29 n30 c31 n32 n33 => Cl 21 #[(.agg (vB A23 n24 c25 A26 n27 c28 A29 n30 c31 n32 n33)), (iv x1)] w22 fun v34 w35 => (∃ (b36 : Bool), v34 = (.bool b36) ∧ bcase (!b36) (K (sv none 0 0) w35) (ldB w35 (bx g21) fun A37 n38 c39 A40 n41 c42 A43 n44 c45 n46 n47 => Cl 50 #[(.agg (vB A37 n38 c39 A40 n41 c42 A43 n44 c45 n46 n47)), (iv x1)] w35 fun v48 w49 => (∃ (A50 : OA) (n51 c52 : Nat), v48 = (sv A50 n51 c52) ∧ K (sv A50 n51 c52) w49)))

def impl_AccessesOf.ann : Ann := (.seq .l (.seq (.seq .l (.two (.seq .l .l) .l)) (.seq .l .l)))

theorem impl_AccessesOf.con {s0 : D.Block} {A0_0 A0_1 A0_2 : OA} {c0_0 c0_1 c0_2 : Nat} {x1 : Int} {r : List D.Access} {w : World} (hp : M.impl_AccessesOf_pre s0 x1) (hr : r = M.impl_AccessesOf s0 x1) (R0_0 : Row el84 w A0_0 s0.Code) (hc0_0 : s0.Code.length ≤ c0_0) (R0_1 : RowW 52 el91 el3 w A0_1 s0.Warps) (hc0_1 : s0.Warps.length ≤ c0_1) (R0_2 : Row el3 w A0_2 s0.Memory) (hc0_2 : s0.Memory.length ≤ c0_2) :
    Cl 12 #[(.agg (bC A0_0 c0_0 A0_1 c0_1 A0_2 c0_2 s0)), (iv x1)] w (fun v_ w_ => ∃ (A0_ : OA) (c0_ : Nat), v_ = (sv A0_ r.length c0_) ∧ Own el63 w_ w.heap.size A0_ c0_ r ∧ Ext w w_) := by
 have H := wp.impl_AccessesOf.math s0 x1 hp
 refine begK mixed Tryz.f12 ann (vc A0_0 s0.Code.length c0_0 A0_1 s0.Warps.length c0_1 A0_2 s0.Memory.length c0_2 s0.Waiting s0.Phase x1) ?_
 unfold vc
 unfold wp.impl_AccessesOf at H
 refine newBlk (fun g4_ w21 L4 O4 e22 => ?_)
 have hB := ethen (Ext.refl w) e22
 refine ⟨_, _, _, (O4.a 0), _, _, _, (O4.a 1), _, _, _, (O4.a 2), _, (O4.a 3), _, (O4.a 4), ?_⟩
 obtain ⟨hp25, H⟩ := H
 obtain ⟨r23, hr24, H⟩ := callO H
 refine (impl_CanStep.con hp25 hr24 (R0_0.ext hB) hc0_0 (R0_1.ext hB) hc0_1 (R0_2.ext hB) hc0_2).mono ?_
 rintro _ w26 ⟨rfl, e27⟩
 have O4 := O4.ext e27
 have hB := ethen hB e27
 refine ⟨r23, rfl, ?_⟩
 refine brc H (fun h H => ?_) fun h H => ?_
 ·cases hr.trans H.symm
  exact ⟨none, 0, rfl, Own.nil, hB⟩
 refine ⟨_, _, _, (O4.a 0), _, _, _, (O4.a 1), _, _, _, (O4.a 2), _, (O4.a 3), _, (O4.a 4), ?_⟩
 obtain ⟨hp30, H⟩ := H
 obtain ⟨r28, hr29, H⟩ := callO H
 refine (impl_Block_accesses.con hp30 hr29 (R0_0.ext hB) hc0_0 (R0_1.ext hB) hc0_1 (R0_2.ext hB) hc0_2).mono ?_
 rintro _ w31 ⟨A33, c34, rfl, P5, e32⟩
 have O5 := P5.mono hB.size
 have hB := ethen hB e32
 refine ⟨A33, r28.length, c34, rfl, ?_⟩
 cases hr.trans H.symm
 exact ⟨A33, c34, rfl, O5, hB⟩
def laws_FnExactAccessesOf.vc (A0_0 : OA) (n0_0 c0_0 : Nat) (A0_1 : OA) (n0_1 c0_1 : Nat) (A0_2 : OA) (n0_2 c0_2 : Nat) (x0_3 x0_4 x1 : Int) (w : World) (K : VK) : Prop :=
  newK w (.cells (vB A0_0 n0_0 c0_0 A0_1 n0_1 c0_1 A0_2 n0_2 c0_2 x0_3 x0_4) 26) fun g21 w22 => ldB w22 (bx g21) fun A23 n24 c25 A26 n27 c28 A29 n30 c31 n32 n33 => Cl 9 #[(.agg (vB A23 n24 c25 A26 n27 c28 A29 n30 c31 n32 n33)), (iv 1048576)] w22 fun v34 w35 => (∃ (n36 : Int), v34 = (iv n36) ∧ bcase (decide (n36 < 0)) (K (.bool true) w35) (ldB w35 (bx g21) fun A37 n38 c39 A40 n41 c42 A43 n44 c45 n46 n47 => Cl 11 #[(.agg (vB A37 n38 c39 A40 n41 c42 A43 n44 c45 n46 n47))] w35 fun v48 w49 => (∃ (A50 : OA) (n51 c52 : Nat), True ∧ ∃ (A53 : OA) (n54 c55 : Nat), True ∧ ∃ (A56 : OA) (n57 c58 : Nat), True ∧ ∃ (n59 : Int), True ∧ ∃ (n60 : Int), True ∧ v48 = (.agg (vB A50 n51 c52 A53 n54 c55 A56 n57 c58 n59 n60)) ∧ Cl 10 #[(.agg (vB A50 n51 c52 A53 n54 c55 A56 n57 c58 n59 n60)), (iv x1)] w49 fun v61 w62 => (∃ (A63 : OA) (n64 c65 : Nat), v61 = (sv A63 n64 c65) ∧ ldB w62 (bx g21) fun A66 n67 c68 A69 n70 c71 A72 n73 c74 n75 n76 => Cl 11 #[(.agg (vB A66 n67 c68 A69 n70 c71 A72 n73 c74 n75 n76))] w62 fun v77 w78 => (∃ (A79 : OA) (n80 c81 : Nat), True ∧ ∃ (A82 : OA) (n83 c84 : Nat), True ∧ ∃ (A85 : OA) (n86 c87 : Nat), True ∧ ∃ (n88 : Int), True ∧ ∃ (n89 : Int), True ∧ v77 = (.agg (vB A79 n80 c81 A82 n83 c84 A85 n86 c87 n88 n89)) ∧ newK w78 (.cells zC 33) fun g90 w91 => stCells (bx g90) [(sv A79 n80 c81), (sv A82 n83 c84), (sv A85 n86 c87), (iv n88), (iv n89)] 0 w91 fun w92 => ldB w92 (bx g90) fun A93 n94 c95 A96 n97 c98 A99 n100 c101 n102 n103 => Cl 12 #[(.agg (vB A93 n94 c95 A96 n97 c98 A99 n100 c101 n102 n103)), (iv x1)] w92 fun v104 w105 => (∃ (A106 : OA) (n107 c108 : Nat), v104 = (sv A106 n107 c108) ∧ Cl 13 #[(sv A106 n107 c108), (sv A63 n64 c65)] w105 fun v109 w110 => (∃ (b111 : Bool), v109 = (.bool b111) ∧ bcase (!b111) (K (.bool false) w110) ((∃ M112 : Nat → Prop, ldSM M112 w110 (bx g90) 0 fun A113 n114 c115 => ldSM M112 w110 (bx g90) 1 fun A116 n117 c118 => ldSM M112 w110 (bx g90) 2 fun A119 n120 c121 => ldIM M112 w110 (bx g90) 3 fun n122 => ldIM M112 w110 (bx g90) 4 fun n123 => ldSM M112 w110 (bx g21) 0 fun A124 n125 c126 => ldSM M112 w110 (bx g21) 1 fun A127 n128 c129 => ldSM M112 w110 (bx g21) 2 fun A130 n131 c132 => ldIM M112 w110 (bx g21) 3 fun n133 => ldIM M112 w110 (bx g21) 4 fun n134 => Cl 11 #[(.agg (vB A124 n125 c126 A127 n128 c129 A130 n131 c132 n133 n134))] w110.drew fun v135 w136 => (∃ (A137 : OA) (n138 c139 : Nat), True ∧ ∃ (A140 : OA) (n141 c142 : Nat), True ∧ ∃ (A143 : OA) (n144 c145 : Nat), True ∧ ∃ (n146 : Int), True ∧ ∃ (n147 : Int), True ∧ v135 = (.agg (vB A137 n138 c139 A140 n141 c142 A143 n144 c145 n146 n147)) ∧ SameBut M112 w110 w136 ∧ Cl 14 #[(.agg (vB A113 n114 c115 A116 n117 c118 A119 n120 c121 n122 n123)), (.agg (vB A137 n138 c139 A140 n141 c142 A143 n144 c145 n146 n147))] w136 fun v148 w149 => (∃ (b150 : Bool), v148 = (.bool b150) ∧ SameBut M112 w110 w149 ∧ bcase (!b150) (K (.bool false) w149) (ldB w149 (bx g90) fun A151 n152 c153 A154 n155 c156 A157 n158 c159 n160 n161 => Cl 15 #[(.agg (vB A151 n152 c153 A154 n155 c156 A157 n158 c159 n160 n161)), (iv 1)] w149 fun v162 w163 => (∃ (n164 : Int), v162 = (iv n164) ∧ bcase (decide (n164 < 0)) (K (.bool false) w163) (Cl 13 #[(sv A106 n107 c108), (sv A63 n64 c65)] w163 fun v166 w167 => (∃ (b168 : Bool), v166 = (.bool b168) ∧ bcase (!b168) (K (.bool false) w167) (Cl 16 #[(sv A106 n107 c108), (iv 1)] w167 fun v169 w170 => (∃ (n171 : Int), v169 = (iv n171) ∧ Cl 17 #[(sv A106 n107 c108), (iv 1)] w170 fun v172 w173 => (∃ (n174 : Int), v172 = (iv n174) ∧ bcase (decide (n174 < 0)) (K (.bool false) w173) (bcase (n174 != n171) (K (.bool false) w173) (ldB w173 (bx g21) fun A175 n176 c177 A178 n179 c180 A181 n182 c183 n184 n185 => Cl 11 #[(.agg (vB A175 n176 c177 A178 n179 c180 A181 n182 c183 n184 n185))] w173 fun v186 w187 => (∃ (A188 : OA) (n189 c190 : Nat), True ∧ ∃ (A191 : OA) (n192 c193 : Nat), True ∧ ∃ (A194 : OA) (n195 c196 : Nat), True ∧ ∃ (n197 : Int), True ∧ ∃ (n198 : Int), True ∧ v186 = (.agg (vB A188 n189 c190 A191 n192 c193 A194 n195 c196 n197 n198)) ∧ Cl 12 #[(.agg (vB A188 n189 c190 A191 n192 c193 A194 n195 c196 n197 n198)), (iv x1)] w187 fun v199 w200 => (∃ (A201 : OA) (n202 c203 : Nat), v199 = (sv A201 n202 c203) ∧ Cl 13 #[(sv A201 n202 c203), (sv A63 n64 c65)] w200 fun v204 w205 => (∃ (b206 : Bool), v204 = (.bool b206) ∧ bcase (!b206) (K (.bool false) w205) (Cl 17 #[(sv A106 n107 c108), (iv 1)] w205 fun v207 w208 => (∃ (n209 : Int), v207 = (iv n209) ∧ bcase (decide (n209 < 0)) (K (.bool false) w208) (bcase (n209 != n171) (K (.bool false) w208) (K (.bool true) w208)))))))))))))))))))))))))))

def laws_FnExactAccessesOf.ann : Ann := (.seq .l (.seq .l (.seq .l (.seq (.seq .l (.two (.seq .l .l) .l)) (.seq .l (.seq .l (.seq .l (.seq (.seq .l (.two (.seq .l .l) .l)) (.seq (.seq .l (.two (.seq .l .l) .l)) (.seq .l (.seq .l (.seq (.seq .l (.two (.seq .l .l) .l)) (.seq .l (.seq .l (.seq .l (.seq .l (.seq (.seq .l (.two (.seq .l .l) .l)) (.seq (.seq .l (.two (.seq .l .l) .l)) (.seq .l (.seq (.seq .l (.two (.seq .l .l) .l)) (.seq .l (.seq .l (.seq (.seq .l (.two (.seq .l .l) .l)) (.seq (.seq .l (.two (.seq .l .l) .l)) (.seq .l .l)))))))))))))))))))))))))

theorem laws_FnExactAccessesOf.con {s0 : D.Block} {A0_0 A0_1 A0_2 : OA} {c0_0 c0_1 c0_2 : Nat} {x1 : Int} {r : Bool} {w : World} (hp : M.laws_FnExactAccessesOf_pre s0 x1) (hr : r = M.laws_FnExactAccessesOf s0 x1) (R0_0 : Row el117 w A0_0 s0.Code) (hc0_0 : s0.Code.length ≤ c0_0) (R0_1 : RowW 111 el169 el3 w A0_1 s0.Warps) (hc0_1 : s0.Warps.length ≤ c0_1) (R0_2 : Row el3 w A0_2 s0.Memory) (hc0_2 : s0.Memory.length ≤ c0_2) :
    Cl 3 #[(.agg (bC A0_0 c0_0 A0_1 c0_1 A0_2 c0_2 s0)), (iv x1)] w (fun v_ w_ => v_ = (.bool r) ∧ Ext w w_) := by
 have H := wp.laws_FnExactAccessesOf.math s0 x1 hp
 refine begK mixed Tryz.f3 ann (vc A0_0 s0.Code.length c0_0 A0_1 s0.Warps.length c0_1 A0_2 s0.Memory.length c0_2 s0.Waiting s0.Phase x1) ?_
 unfold vc
 unfold wp.laws_FnExactAccessesOf at H
 refine newBlk (fun g4_ w21 L4 O4 e22 => ?_)
 have hB := ethen (Ext.refl w) e22
 refine ⟨_, _, _, (O4.a 0), _, _, _, (O4.a 1), _, _, _, (O4.a 2), _, (O4.a 3), _, (O4.a 4), ?_⟩
 obtain ⟨hp25, H⟩ := H
 obtain ⟨r23, hr24, H⟩ := callO H
 refine (laws_szBlock.con hp25 hr24 (R0_0.ext hB) hc0_0 (R0_1.ext hB) hc0_1 (R0_2.ext hB) hc0_2).mono ?_
 rintro _ w26 ⟨rfl, e27⟩
 have O4 := O4.ext e27
 have hB := ethen hB e27
 refine ⟨r23, rfl, ?_⟩
 refine brc H (fun h H => ?_) fun h H => ?_
 ·cases hr.trans H.symm
  exact ⟨rfl, hB⟩
 refine ⟨_, _, _, (O4.a 0), _, _, _, (O4.a 1), _, _, _, (O4.a 2), _, (O4.a 3), _, (O4.a 4), ?_⟩
 obtain ⟨hp30, H⟩ := H
 obtain ⟨r28, hr29, H⟩ := callO H
 refine (laws_toBlock.con hp30 hr29 (R0_0.ext hB) hc0_0 (R0_1.ext hB) hc0_1 (R0_2.ext hB) hc0_2).mono ?_
 rintro _ w31 ⟨A33, c34, A35, c36, F39, A37, c38, rfl, P5, P6, P7, N6_7, e32⟩
 have O5 := P5.mono hB.size
 have O6 := P6.mono hB.size
 have O7 := P7.mono hB.size
 have hB := ethen hB e32
 refine ⟨A33, r28.Code.length, c34, trivial, A35, r28.Warps.length, c36, trivial, A37, r28.Memory.length, c38, trivial, r28.Waiting, trivial, r28.Phase, trivial, rfl, ?_⟩
 obtain ⟨hp42, H⟩ := H
 obtain ⟨r40, hr41, H⟩ := callO H
 refine (spec_AccessesOf.con hp42 hr41 O5.row O5.le O6.row O6.le O7.row O7.le).mono ?_
 rintro _ w43 ⟨A45, c46, rfl, P8, e44⟩
 have O4 := (O4.ext e32).ext e44
 have O8 := P8.mono hB.size
 have hB := ethen hB e44
 refine ⟨A45, r40.length, c46, rfl, _, _, _, (O4.a 0), _, _, _, (O4.a 1), _, _, _, (O4.a 2), _, (O4.a 3), _, (O4.a 4), ?_⟩
 obtain ⟨hp49, H⟩ := H
 obtain ⟨r47, hr48, H⟩ := callO H
 refine (laws_toBlock.con hp49 hr48 (R0_0.ext hB) hc0_0 (R0_1.ext hB) hc0_1 (R0_2.ext hB) hc0_2).mono ?_
 rintro _ w50 ⟨A52, c53, A54, c55, F58, A56, c57, rfl, P9, P10, P11, N10_11, e51⟩
 have N9_4 := P9.apart_old O4.lt
 have N8_9 := aN O8 P9
 have N10_4 := P10.new_disbox O4 (Nat.le_refl _)
 have N10_8 := P10.new_dis O8 (Nat.le_refl _)
 have N11_4 := P11.apart_old O4.lt
 have N8_11 := aN O8 P11
 have O9 := P9.mono hB.size
 have O10 := P10.mono hB.size
 have O11 := P11.mono hB.size
 refine ⟨A52, r47.Code.length, c53, trivial, A54, r47.Warps.length, c55, trivial, A56, r47.Memory.length, c57, trivial, r47.Waiting, trivial, r47.Phase, trivial, rfl, ?_⟩
 refine newSt (bC A52 c53 A54 c55 A56 c57 r47) (fun g12_ w61 L12 O12 e62 => ?_)
 have O4 := (O4.ext e51).ext e62
 have O8 := (O8.ext e51).ext e62
 have O9 := O9.ext e62
 have O10 := O10.ext e62
 have O11 := O11.ext e62
 have hB := ethen (ethen hB e51) e62
 refine ⟨_, _, _, (O12.a 0), _, _, _, (O12.a 1), _, _, _, (O12.a 2), _, (O12.a 3), _, (O12.a 4), ?_⟩
 obtain ⟨hp65, H⟩ := H
 obtain ⟨r63, hr64, H⟩ := callO H
 refine (impl_AccessesOf.con hp65 hr64 O9.row O9.le O10.row O10.le O11.row O11.le).mono ?_
 rintro _ w66 ⟨A68, c69, rfl, P13, e67⟩
 have N13_4 := P13.apart_old O4.lt
 have N8_13 := aN O8 P13
 have N9_13 := aN O9 P13
 have N10_13 := O10.dis_new P13 (Nat.le_refl _)
 have N11_13 := aN O11 P13
 have O8 := O8.ext e67
 have O13 := P13.mono hB.size
 refine ⟨A68, r63.length, c69, rfl, ?_⟩
 obtain ⟨hp72, H⟩ := H
 obtain ⟨r70, hr71, H⟩ := callO H
 refine (laws_eqAccessS.con hp72 hr71 O13.row O13.le O8.row O8.le).mono ?_
 rintro _ w73 ⟨rfl, e74⟩
 have O4 := (O4.ext e67).ext e74
 have O8 := O8.ext e74
 have O9 := (O9.ext e67).ext e74
 have O10 := (O10.ext e67).ext e74
 have O11 := (O11.ext e67).ext e74
 have O12 := (O12.ext e67).ext e74
 have O13 := O13.ext e74
 have hB := ethen (ethen hB e67) e74
 refine ⟨r70, rfl, ?_⟩
 refine brc H (fun h H => ?_) fun h H => ?_
 ·cases hr.trans H.symm
  exact ⟨rfl, hB⟩
 refine ⟨(fun _ => False), _, _, _, noM (O12.a 0), _, _, _, noM (O12.a 1), _, _, _, noM (O12.a 2), _, noM (O12.a 3), _, noM (O12.a 4), _, _, _, noM (O4.a 0), _, _, _, noM (O4.a 1), _, _, _, noM (O4.a 2), _, noM (O4.a 3), _, noM (O4.a 4), ?_⟩
 have O4 := O4.ext (Ext.drew _)
 have O8 := O8.ext (Ext.drew _)
 have O9 := O9.ext (Ext.drew _)
 have O10 := O10.ext (Ext.drew _)
 have O11 := O11.ext (Ext.drew _)
 have O12 := O12.ext (Ext.drew _)
 have O13 := O13.ext (Ext.drew _)
 have hB := ethen hB (Ext.drew _)
 have hS75 := (Chg.refl (fun _ => False) w73).then (Ext.drew _)
 obtain ⟨hp78, H⟩ := H
 obtain ⟨r76, hr77, H⟩ := callO H
 refine (laws_toBlock.con hp78 hr77 (R0_0.ext hB) hc0_0 (R0_1.ext hB) hc0_1 (R0_2.ext hB) hc0_2).mono ?_
 rintro _ w79 ⟨A81, c82, A83, c84, F87, A85, c86, rfl, P14, P15, P16, N15_16, e80⟩
 have O9 := O9.ext e80
 have O10 := O10.ext e80
 have O11 := O11.ext e80
 have O14 := P14.mono hB.size
 have O15 := P15.mono hB.size
 have O16 := P16.mono hB.size
 have hS75 := hS75.then e80
 refine ⟨A81, r76.Code.length, c82, trivial, A83, r76.Warps.length, c84, trivial, A85, r76.Memory.length, c86, trivial, r76.Waiting, trivial, r76.Phase, trivial, rfl, sameBut_chg hS75, ?_⟩
 obtain ⟨hp90, H⟩ := H
 obtain ⟨r88, hr89, H⟩ := callO H
 refine (laws_eqBlock.con hp90 hr89 O9.row O9.le O10.row O10.le O11.row O11.le O14.row O14.le O15.row O15.le O16.row O16.le).mono ?_
 rintro _ w91 ⟨rfl, e92⟩
 have O4 := (O4.ext e80).ext e92
 have O8 := (O8.ext e80).ext e92
 have O9 := O9.ext e92
 have O10 := O10.ext e92
 have O11 := O11.ext e92
 have O12 := (O12.ext e80).ext e92
 have O13 := (O13.ext e80).ext e92
 have hB := ethen (ethen hB e80) e92
 have hS75 := hS75.then e92
 refine ⟨r88, rfl, sameBut_chg hS75, ?_⟩
 refine brc H (fun h H => ?_) fun h H => ?_
 ·cases hr.trans H.symm
  exact ⟨rfl, hB⟩
 refine ⟨_, _, _, (O12.a 0), _, _, _, (O12.a 1), _, _, _, (O12.a 2), _, (O12.a 3), _, (O12.a 4), ?_⟩
 obtain ⟨hp95, H⟩ := H
 obtain ⟨r93, hr94, H⟩ := callO H
 refine (laws_markBlock.con hp95 hr94 (O9.mono (Nat.zero_le _)) (O10.mono (Nat.zero_le _)) (O11.mono (Nat.zero_le _)) N10_11).mono ?_
 rintro _ w96 ⟨rfl, Q9, hl98, Q10, hl99, Q11, hl100, e97⟩
 have O4 := O4.chgS e97 (fun hS_ => hS_.elim (N9_4).inb (fun hS_ => hS_.elim N10_4 (N11_4).inb))
 have O8 := O8.chgS e97 (fun g h_ => (fun hS_ => hS_.elim ((N8_9).inb g h_) (fun hS_ => hS_.elim ((N10_8).symm g h_) ((N8_11).inb g h_))))
 have O13 := O13.chgS e97 (fun g h_ => (fun hS_ => hS_.elim (((N9_13).symm).inb g h_) (fun hS_ => hS_.elim ((N10_13).symm g h_) (((N11_13).symm).inb g h_))))
 have hB := Chg.ext hB e97 (fun g => (fun hS_ => hS_.elim (O9.low g) (fun hS_ => hS_.elim (O10.lowW g) (O11.low g))))
 refine ⟨r93.1, rfl, ?_⟩
 refine brc H (fun h H => ?_) fun h H => ?_
 ·cases hr.trans H.symm
  exact ⟨rfl, hB⟩
 obtain ⟨hp103, H⟩ := H
 obtain ⟨r101, hr102, H⟩ := callO H
 refine (laws_eqAccessS.con hp103 hr102 O13.row O13.le O8.row O8.le).mono ?_
 rintro _ w104 ⟨rfl, e105⟩
 have O4 := O4.ext e105
 have O8 := O8.ext e105
 have O13 := O13.ext e105
 have hB := ethen hB e105
 refine ⟨r101, rfl, ?_⟩
 refine brc H (fun h H => ?_) fun h H => ?_
 ·cases hr.trans H.symm
  exact ⟨rfl, hB⟩
 obtain ⟨hp108, H⟩ := H
 obtain ⟨r106, hr107, H⟩ := callO H
 refine (laws_markAccessS.con hp108 hr107 (O13.mono (Nat.zero_le _))).mono ?_
 rintro _ w109 ⟨rfl, Q13, hl111, e110⟩
 have hB := Chg.ext hB e110 O13.low
 have O13 := Q13.up O13
 refine ⟨r106.1, rfl, ?_⟩
 obtain ⟨hp114, H⟩ := H
 obtain ⟨r112, hr113, H⟩ := callO H
 refine (cllArgs (by first | (simp only [bC, wC, List.length_set, hl111]; done) | (simp; done)) (laws_heldAccessS.con hp114 hr113 O13.row O13.le)).mono ?_
 rintro _ w115 ⟨rfl, e116⟩
 have O4 := (O4.chgS e110 (N13_4).inb).ext e116
 have O8 := (O8.chgS e110 (N8_13).inb).ext e116
 have O13 := O13.ext e116
 have hB := ethen hB e116
 refine ⟨r112, rfl, ?_⟩
 refine brc H (fun h H => ?_) fun h H => ?_
 ·cases hr.trans H.symm
  exact ⟨rfl, hB⟩
 refine brc H (fun h H => ?_) fun h H => ?_
 ·cases hr.trans H.symm
  exact ⟨rfl, hB⟩
 refine ⟨_, _, _, (O4.a 0), _, _, _, (O4.a 1), _, _, _, (O4.a 2), _, (O4.a 3), _, (O4.a 4), ?_⟩
 obtain ⟨hp119, H⟩ := H
 obtain ⟨r117, hr118, H⟩ := callO H
 refine (laws_toBlock.con hp119 hr118 (R0_0.ext hB) hc0_0 (R0_1.ext hB) hc0_1 (R0_2.ext hB) hc0_2).mono ?_
 rintro _ w120 ⟨A122, c123, A124, c125, F128, A126, c127, rfl, P17, P18, P19, N18_19, e121⟩
 have O17 := P17.mono hB.size
 have O18 := P18.mono hB.size
 have O19 := P19.mono hB.size
 have hB := ethen hB e121
 refine ⟨A122, r117.Code.length, c123, trivial, A124, r117.Warps.length, c125, trivial, A126, r117.Memory.length, c127, trivial, r117.Waiting, trivial, r117.Phase, trivial, rfl, ?_⟩
 obtain ⟨hp131, H⟩ := H
 obtain ⟨r129, hr130, H⟩ := callO H
 refine (impl_AccessesOf.con hp131 hr130 O17.row O17.le O18.row O18.le O19.row O19.le).mono ?_
 rintro _ w132 ⟨A134, c135, rfl, P20, e133⟩
 have O8 := (O8.ext e121).ext e133
 have O20 := P20.mono hB.size
 refine ⟨A134, r129.length, c135, rfl, ?_⟩
 obtain ⟨hp138, H⟩ := H
 obtain ⟨r136, hr137, H⟩ := callO H
 refine (laws_eqAccessS.con hp138 hr137 O20.row O20.le O8.row O8.le).mono ?_
 rintro _ w139 ⟨rfl, e140⟩
 have O13 := ((O13.ext e121).ext e133).ext e140
 have hB := ethen (ethen hB e133) e140
 refine ⟨r136, rfl, ?_⟩
 refine brc H (fun h H => ?_) fun h H => ?_
 ·cases hr.trans H.symm
  exact ⟨rfl, hB⟩
 obtain ⟨hp143, H⟩ := H
 obtain ⟨r141, hr142, H⟩ := callO H
 refine (cllArgs (by first | (simp only [bC, wC, List.length_set, hl111]; done) | (simp; done)) (laws_heldAccessS.con hp143 hr142 O13.row O13.le)).mono ?_
 rintro _ w144 ⟨rfl, e145⟩
 have hB := ethen hB e145
 refine ⟨r141, rfl, ?_⟩
 refine brc H (fun h H => ?_) fun h H => ?_
 ·cases hr.trans H.symm
  exact ⟨rfl, hB⟩
 refine brc H (fun h H => ?_) fun h H => ?_
 ·cases hr.trans H.symm
  exact ⟨rfl, hB⟩
 cases hr.trans H.symm
 exact ⟨rfl, hB⟩
end Go.V
